/- RoomsOwn: results are new memory -/
import Derived.Deep.QuietTactic
import Derived.BigQuiet
import Derived.Test.YtpjobcnfjpbaeaaRows
import Derived.WalkKit
import Derived.ProofKit
import Derived.OpenShut
import Derived.ShutString
import Derived.ChangeOld
import Derived.Below
import Derived.SizedLaws
import Derived.Deep.Slices
import Derived.Deep.Strs
import Derived.Lib.SmallJoins
import Derived.Test.YtpjobcnfjpbaeaaZg4
set_option linter.unusedSimpArgs false
set_option linter.unusedVariables false

namespace Go.Proofs.Ytpjobcnfjpbaeaa.PA
open Go.RowKit Go.Proofs.YtpjobcnfjpbaeaaW.PrintWords Go.Proofs.YtpjobcnfjpbaeaaW.PrintLast Go.Proofs.YtpjobcnfjpbaeaaW.PrintMore
attribute [local go_sem] max2_int min2_int max_two min_two max_three min_three max_four min_four
set_option linter.unusedVariables false
set_option linter.unusedSimpArgs false
mutual
def turndownref08_Right.j0 : Nat → List (S47) → List Int → Bool → List Int → List Int → Option (Bool)
  | 0, _, _, _, _, _ => none
  | k + 1, x0, x1, x21, x332000, x332001 => if x21 = true then (some false) else (turndownref08_Right.l0 k x0 x1 0 x332000 x332001)
def turndownref08_Right.l0 : Nat → List (S47) → List Int → Int → List Int → List Int → Option (Bool)
  | 0, _, _, _, _, _ => none
  | k + 1, x0, x1, x7, x332000, x332001 => if x7 < (x332001.length : Int) then (if 0 ≤ x7 then (if (rd x332001 x7) < 0 then (some false) else (if (rd x332001 x7) > 1099511627776 then (some false) else (turndownref08_Right.l0 k x0 x1 (wrap64 (x7 + 1)) x332000 x332001))) else (none)) else ((turndownref08_Revenue.f k x0 x332000).bind fun t335 => ((turndownref08_Bound.f k x0 x1 x332001).bind fun t336 => (some (t335 == t336))))
end
def turndownref08_Right.f (k : Nat) (l0 : List (S47)) (l1 : List Int) (l2_0 : List Int) (l2_1 : List Int) : Option (Bool) := (turndownref08_Fits.f k l0 l1 l2_0).bind fun t332 => (if t332 = true then (turndownref08_Right.j0 k l0 l1 ((l2_1.length : Int) != (l1.length : Int)) l2_0 l2_1) else (turndownref08_Right.j0 k l0 l1 true l2_0 l2_1))
theorem turndownref08_Right.mono_l : ∀ k, (∀ y0 y1 y2 y3 y4, LeO (turndownref08_Right.j0 k y0 y1 y2 y3 y4) (turndownref08_Right.j0 (k + 1) y0 y1 y2 y3 y4)) ∧ (∀ y0 y1 y2 y3 y4, LeO (turndownref08_Right.l0 k y0 y1 y2 y3 y4) (turndownref08_Right.l0 (k + 1) y0 y1 y2 y3 y4))
  | 0 => ⟨fun _ _ _ _ _ r h => by simp [turndownref08_Right.j0] at h, fun _ _ _ _ _ r h => by simp [turndownref08_Right.l0] at h⟩
  | k + 1 => by
    obtain ⟨ih0, ih1⟩ := turndownref08_Right.mono_l k
    refine ⟨?_, ?_⟩
    · intro y0 y1 y2 y3 y4
      unfold turndownref08_Right.j0
      repeat' first
      | (with_reducible exact ih0 _ _ _ _ _)
      | (with_reducible exact ih1 _ _ _ _ _)
      | (with_reducible exact turndownref08_Bound.mono _ _ _ _)
      | (with_reducible exact turndownref08_Fits.mono _ _ _ _)
      | (with_reducible exact turndownref08_Revenue.mono _ _ _)
      | (with_reducible exact LeO.refl _)
      | (with_reducible exact LeO.none _)
      | (with_reducible refine LeO.ite ?_ ?_)
      | (with_reducible refine LeO.bind ?_ (fun _ => ?_))
      | exact ih0 _ _ _ _ _
      | exact ih1 _ _ _ _ _
      | exact turndownref08_Bound.mono _ _ _ _
      | exact turndownref08_Fits.mono _ _ _ _
      | exact turndownref08_Revenue.mono _ _ _
      | exact LeO.none _
      | refine LeO.ite ?_ ?_
      | refine LeO.bind ?_ (fun _ => ?_)
    · intro y0 y1 y2 y3 y4
      unfold turndownref08_Right.l0
      repeat' first
      | (with_reducible exact ih0 _ _ _ _ _)
      | (with_reducible exact ih1 _ _ _ _ _)
      | (with_reducible exact turndownref08_Bound.mono _ _ _ _)
      | (with_reducible exact turndownref08_Fits.mono _ _ _ _)
      | (with_reducible exact turndownref08_Revenue.mono _ _ _)
      | (with_reducible exact LeO.refl _)
      | (with_reducible exact LeO.none _)
      | (with_reducible refine LeO.ite ?_ ?_)
      | (with_reducible refine LeO.bind ?_ (fun _ => ?_))
      | exact ih0 _ _ _ _ _
      | exact ih1 _ _ _ _ _
      | exact turndownref08_Bound.mono _ _ _ _
      | exact turndownref08_Fits.mono _ _ _ _
      | exact turndownref08_Revenue.mono _ _ _
      | exact LeO.none _
      | refine LeO.ite ?_ ?_
      | refine LeO.bind ?_ (fun _ => ?_)
theorem turndownref08_Right.mono : ∀ a0 a1 a2 a3 k, LeO (turndownref08_Right.f k a0 a1 a2 a3) (turndownref08_Right.f (k + 1) a0 a1 a2 a3) := by
  intro a0 a1 a2 a3 k
  obtain ⟨ih0, ih1⟩ := turndownref08_Right.mono_l k
  unfold turndownref08_Right.f
  repeat' first
      | (with_reducible exact ih0 _ _ _ _ _)
      | (with_reducible exact ih1 _ _ _ _ _)
      | (with_reducible exact turndownref08_Bound.mono _ _ _ _)
      | (with_reducible exact turndownref08_Fits.mono _ _ _ _)
      | (with_reducible exact turndownref08_Revenue.mono _ _ _)
      | (with_reducible exact LeO.refl _)
      | (with_reducible exact LeO.none _)
      | (with_reducible refine LeO.ite ?_ ?_)
      | (with_reducible refine LeO.bind ?_ (fun _ => ?_))
      | exact ih0 _ _ _ _ _
      | exact ih1 _ _ _ _ _
      | exact turndownref08_Bound.mono _ _ _ _
      | exact turndownref08_Fits.mono _ _ _ _
      | exact turndownref08_Revenue.mono _ _ _
      | exact LeO.none _
      | refine LeO.ite ?_ ?_
      | refine LeO.bind ?_ (fun _ => ?_)
def turndownref08_Right.T8 : Bool × List (List Nat × List Nat) := (true, [([], []), ([], []), ([1], [1]), ([0, 2], [0, 2]), ([], []), ([], []), ([], []), ([6], [6]), ([4, 5, 7, 3], [4, 5, 7]), ([3, 8], [3, 8]), ([9, 8, 0, 1, 2, 3, 4, 5, 6, 7, 8, 9], [9])])
def turndownref08_Right.B8 : List Nat := [0, 0, 2, 7, 0, 0, 0, 64, 255, 511, 1023]
theorem turndownref08_Right.tab8 : rtab .any (opsOf Try.f33 8) = turndownref08_Right.T8 := by kernel_rfl
theorem turndownref08_Right.bits8 : waitsOk turndownref08_Right.T8.2 turndownref08_Right.B8 = true := by kernel_rfl
set_option maxHeartbeats 8000000 in
set_option maxRecDepth 100000 in
theorem turndownref08_Right.calls (k : Nat) (A0 : Option Addr) (c0 : Nat) (l0 : List (S47)) (A1 : Option Addr) (c1 : Nat) (l1 : List Int) (A2_0 : Option Addr) (c2_0 : Nat) (l2_0 : List Int) (A2_1 : Option Addr) (c2_1 : Nat) (l2_1 : List Int) (r : Bool) (w : World) (hr0 : Kd.C k47 w A0 l0.length l0) (hc0 : l0.length ≤ c0) (hr1 : Kd.C (Kd.int .i64) w A1 l1.length l1) (hc1 : l1.length ≤ c1) (hr2_0 : Kd.C (Kd.int .i64) w A2_0 l2_0.length l2_0) (hc2_0 : l2_0.length ≤ c2_0) (hr2_1 : Kd.C (Kd.int .i64) w A2_1 l2_1.length l2_1) (hc2_1 : l2_1.length ≤ c2_1) (h : turndownref08_Right.f k l0 l1 l2_0 l2_1 = some r) :
    Calls Try.prog 33 #[.slice A0 l0.length c0, .slice A1 l1.length c1, .agg #[.slice A2_0 l2_0.length c2_0, .slice A2_1 l2_1.length c2_1]] w fun e w' => e = .returned (.bool r) ∧ Below w.heap.size w w' := by
  have hu39 := Try.underlying39
  have HR0 := Aside0.mk hr0
  have HC0 := Aside0.mk hc0
  clear hr0 hc0
  have HR1 := Aside0.mk hr1
  have HC1 := Aside0.mk hc1
  clear hr1 hc1
  have HR2_0 := Aside0.mk hr2_0
  have HC2_0 := Aside0.mk hc2_0
  clear hr2_0 hc2_0
  have HR2_1 := Aside0.mk hr2_1
  have HC2_1 := Aside0.mk hc2_1
  clear hr2_1 hc2_1
  have HB := Aside0.mk (Below.refl w.heap.size w)
  have H : ((turndownref08_Fits.f k l0 l1 l2_0).bind fun t332 => (if t332 = true then (turndownref08_Right.j0 k l0 l1 ((l2_1.length : Int) != (l1.length : Int)) l2_0 l2_1) else (turndownref08_Right.j0 k l0 l1 true l2_0 l2_1))) = some r := h
  clear h
  have HC4 := Aside0.mk H
  clear H
  go_enter Try.func33, Try.ntmps33
  go_upto_region 1 with (first | ((with_reducible refine gate_dst (N := 5) rfl ?_); (try (refine gate_guard (by rfl) ?_; dsimp only)); refine box_event ?hg (N := 5) ?hd (cs := #[.slice A2_0 l2_0.length c2_0, .slice A2_1 l2_1.length c2_1]) (t := 39) ?hr ?_; (case hd => rfl); (case hg => rfl); (case hr => first | (go_simp; done) | (go_simp; rfl)); intro gb331 hg w5 hbox hb; have n0_ := Aside0.mk (below_step (by repeat (first | (with_reducible first | exact HB.out | apply below_alloc | apply pw_below_drewN | apply below_drew1) | exact HB.out)) hb); have n1_ := Aside0.mk (hbox); have n2_ := Aside0.mk ((by rw [hg]; exact (below_size (by repeat (first | (with_reducible first | exact HB.out | apply below_alloc | apply pw_below_drewN | apply below_drew1) | exact HB.out))) : w.heap.size ≤ gb331)); have n3_ := Aside0.mk ((by rw [hg]; exact (below_size (by repeat (first | (with_reducible first | exact HB.out | apply below_alloc | apply pw_below_drewN | apply below_drew1) | exact HB.out))) : w.heap.size ≤ gb331)); clear HB; have HB := n0_; have BK331 := n1_; have GW331 := n2_; have GE331 := n3_; clear n0_ n1_ n2_ n3_; clear hb hbox hg))
  (try simp only [Act.put, List.setIfInBounds_toArray, List.set_cons_zero, List.set_cons_succ])
  go_cut [21] (fun v21 wc => ∃ (kq : Nat) (x21_3 : Bool), v21 = .bool x21_3 ∧ Aside0 (turndownref08_Right.j0 kq l0 l1 x21_3 l2_0 l2_1 = some r) ∧ Aside0 (kq ≤ k) ∧ Aside0 (wc.heap[gb331]? = some (.cells #[(.slice A2_0 l2_0.length c2_0), (.slice A2_1 l2_1.length c2_1)] 39 (0, 0))) ∧ Aside0 (Below w.heap.size w wc))
  case first =>
    have H := HC4.out
    clear HC4
    replace H := Option.bind_eq_some_iff.mp H
    obtain ⟨t332, A60, H⟩ := H
    replace H : (if t332 = true then (turndownref08_Right.j0 k l0 l1 ((l2_1.length : Int) != (l1.length : Int)) l2_0 l2_1) else (turndownref08_Right.j0 k l0 l1 true l2_0 l2_1)) = some r := H
    have A6 := Aside0.mk A60
    clear A60
    by_cases c7 : t332 = true
    · subst c7
      have H1 : (turndownref08_Right.j0 k l0 l1 ((l2_1.length : Int) != (l1.length : Int)) l2_0 l2_1) = some r := by rw [if_pos rfl] at H; exact H
      clear H
      have H := H1
      clear H1
      have H' := Aside0.mk H
      clear H
      have hcz8_0 : w5.cell? ⟨gb331, 0, none⟩ = some (.slice A2_0 l2_0.length c2_0) := (blk_cell BK331.out 0).trans rfl
      have hcz8_1 : w5.cell? ⟨gb331, 1, none⟩ = some (.slice A2_1 l2_1.length c2_1) := (blk_cell BK331.out 1).trans rfl
      have hfz8_0 := blk_frozen BK331.out 0
      have hfz8_1 := blk_frozen BK331.out 1
      go_wp2_with (first | ((with_reducible refine gate_callee (f := 27) rfl ?_); refine goesL_ (some 12) rfl rfl Try.func27 (by kernel_rfl) rfl #[.slice A0 l0.length c0, .slice A1 l1.length c1, .slice A2_0 l2_0.length c2_0] rfl (by (try simp only [List.map_toArray, List.map_cons, List.map_nil]); first | done | rfl | (simp only [List.length_drop, List.length_take]; rfl)) ?_; (with_reducible refine (turndownref08_Fits.calls k _ _ l0 _ _ l1 _ _ l2_0 true _ ?side1 ?side2 ?side3 ?side4 ?side5 ?side6 A6.out).mono ?_); (case side1 => repeat (first | exact (Kd.C_below HR0.out HB.out) | (with_reducible refine Kd.C_alloc ?_ _) | (with_reducible refine Kd.C_drewN ?_ _) | (with_reducible refine Kd.C_drew ?_))); (case side2 => exact HC0.out); (case side3 => repeat (first | exact (Kd.C_below HR1.out HB.out) | (with_reducible refine Kd.C_alloc ?_ _) | (with_reducible refine Kd.C_drewN ?_ _) | (with_reducible refine Kd.C_drew ?_))); (case side4 => exact HC1.out); (case side5 => repeat (first | exact (Kd.C_below HR2_0.out HB.out) | (with_reducible refine Kd.C_alloc ?_ _) | (with_reducible refine Kd.C_drewN ?_ _) | (with_reducible refine Kd.C_drew ?_))); (case side6 => exact HC2_0.out); rintro e w9 ⟨rfl, hb⟩; refine ⟨_, rfl, ?_⟩; have n0_ := Aside0.mk (blk_below (g := gb331) (o := .cells #[.slice A2_0 l2_0.length c2_0, .slice A2_1 l2_1.length c2_1] 39 (0, 0)) (by (with_reducible repeat (first | refine blk_drewN ?_ _ | refine blk_drew ?_ | refine blk_alloc ?_ _)); exact BK331.out) hb); have n1_ := Aside0.mk (below_step (by repeat (first | (with_reducible first | exact HB.out | apply below_alloc | apply pw_below_drewN | apply below_drew1 | refine below_set ?_ GE331.out) | exact HB.out)) hb); clear BK331; clear HB; have BK331 := n0_; have HB := n1_; clear n0_ n1_; (try clear hb); (try clear hb2); (try clear hk); (try clear hi); have hcz10_0 : w9.cell? ⟨gb331, 0, none⟩ = some (.slice A2_0 l2_0.length c2_0) := (blk_cell BK331.out 0).trans rfl; have hcz10_1 : w9.cell? ⟨gb331, 1, none⟩ = some (.slice A2_1 l2_1.length c2_1) := (blk_cell BK331.out 1).trans rfl; have hfz10_0 := blk_frozen BK331.out 0; have hfz10_1 := blk_frozen BK331.out 1))
      go_meet
      case rel => exact ⟨_, (((l2_1.length : Int) != (l1.length : Int))), (by first | rfl | (simp; done) | (simp [*]; done)), H', ⟨by first | omega | exact Nat.le_refl _⟩, ⟨by (with_reducible repeat (first | refine blk_drewN ?_ _ | refine blk_drew ?_ | refine blk_alloc ?_ _)); exact BK331.out⟩, ⟨by repeat (first | (with_reducible first | exact HB.out | apply below_alloc | apply pw_below_drewN | apply below_drew1 | refine below_set ?_ GE331.out) | exact HB.out)⟩⟩
    · replace c7 := Bool.eq_false_iff.mpr c7
      subst c7
      have H1 : (turndownref08_Right.j0 k l0 l1 true l2_0 l2_1) = some r := by rw [if_neg (show ¬ (false = true) by decide)] at H; exact H
      clear H
      have H := H1
      clear H1
      have H' := Aside0.mk H
      clear H
      have hcz11_0 : w5.cell? ⟨gb331, 0, none⟩ = some (.slice A2_0 l2_0.length c2_0) := (blk_cell BK331.out 0).trans rfl
      have hcz11_1 : w5.cell? ⟨gb331, 1, none⟩ = some (.slice A2_1 l2_1.length c2_1) := (blk_cell BK331.out 1).trans rfl
      have hfz11_0 := blk_frozen BK331.out 0
      have hfz11_1 := blk_frozen BK331.out 1
      go_wp2_with (first | ((with_reducible refine gate_callee (f := 27) rfl ?_); refine goesL_ (some 12) rfl rfl Try.func27 (by kernel_rfl) rfl #[.slice A0 l0.length c0, .slice A1 l1.length c1, .slice A2_0 l2_0.length c2_0] rfl (by (try simp only [List.map_toArray, List.map_cons, List.map_nil]); first | done | rfl | (simp only [List.length_drop, List.length_take]; rfl)) ?_; (with_reducible refine (turndownref08_Fits.calls k _ _ l0 _ _ l1 _ _ l2_0 false _ ?side1 ?side2 ?side3 ?side4 ?side5 ?side6 A6.out).mono ?_); (case side1 => repeat (first | exact (Kd.C_below HR0.out HB.out) | (with_reducible refine Kd.C_alloc ?_ _) | (with_reducible refine Kd.C_drewN ?_ _) | (with_reducible refine Kd.C_drew ?_))); (case side2 => exact HC0.out); (case side3 => repeat (first | exact (Kd.C_below HR1.out HB.out) | (with_reducible refine Kd.C_alloc ?_ _) | (with_reducible refine Kd.C_drewN ?_ _) | (with_reducible refine Kd.C_drew ?_))); (case side4 => exact HC1.out); (case side5 => repeat (first | exact (Kd.C_below HR2_0.out HB.out) | (with_reducible refine Kd.C_alloc ?_ _) | (with_reducible refine Kd.C_drewN ?_ _) | (with_reducible refine Kd.C_drew ?_))); (case side6 => exact HC2_0.out); rintro e w12 ⟨rfl, hb⟩; refine ⟨_, rfl, ?_⟩; have n0_ := Aside0.mk (blk_below (g := gb331) (o := .cells #[.slice A2_0 l2_0.length c2_0, .slice A2_1 l2_1.length c2_1] 39 (0, 0)) (by (with_reducible repeat (first | refine blk_drewN ?_ _ | refine blk_drew ?_ | refine blk_alloc ?_ _)); exact BK331.out) hb); have n1_ := Aside0.mk (below_step (by repeat (first | (with_reducible first | exact HB.out | apply below_alloc | apply pw_below_drewN | apply below_drew1 | refine below_set ?_ GE331.out) | exact HB.out)) hb); clear BK331; clear HB; have BK331 := n0_; have HB := n1_; clear n0_ n1_; (try clear hb); (try clear hb2); (try clear hk); (try clear hi)))
      go_meet
      case rel => exact ⟨_, (true), (by first | rfl | (simp; done) | (simp [*]; done)), H', ⟨by first | omega | exact Nat.le_refl _⟩, ⟨by (with_reducible repeat (first | refine blk_drewN ?_ _ | refine blk_drew ?_ | refine blk_alloc ?_ _)); exact BK331.out⟩, ⟨by repeat (first | (with_reducible first | exact HB.out | apply below_alloc | apply pw_below_drewN | apply below_drew1 | refine below_set ?_ GE331.out) | exact HB.out)⟩⟩
  case rest =>
    clear HC4
    try clear c1
    try clear c2
    try clear p2
    try clear c3
    try clear c7
    try clear hcz10_0
    try clear hcz10_1
    try clear hcz11_0
    try clear hcz11_1
    try clear hcz8_0
    try clear hcz8_1
    try clear hfz10_0
    try clear hfz10_1
    try clear hfz11_0
    try clear hfz11_1
    try clear hfz8_0
    try clear hfz8_1
    obtain ⟨kq, x21_3, rfl, HA, HJ3, BK331, HB⟩ := hcut
    cases kq with
    | zero => exact absurd HA.out (by simp [turndownref08_Right.j0])
    | succ kj3 =>
      have H := HA.out
      clear HA
      simp only [turndownref08_Right.j0] at H
      by_cases c13 : x21_3 = true
      · subst c13
        have H1 : (some false) = some r := by rw [if_pos rfl] at H; exact H
        clear H
        have H := H1
        clear H1
        obtain rfl := Option.some.inj H
        go_wp2
        go_ret
        exact ⟨by first | rfl | (simp [errW_none, errW_some] <;> rfl) | (simp [*, errW_none, errW_some] <;> rfl), by repeat (first | (with_reducible first | exact HB.out | apply below_alloc | apply pw_below_drewN | apply below_drew1 | refine below_set ?_ GE331.out) | exact HB.out)⟩
      · replace c13 := Bool.eq_false_iff.mpr c13
        subst c13
        have H1 : (turndownref08_Right.l0 kj3 l0 l1 0 l2_0 l2_1) = some r := by rw [if_neg (show ¬ (false = true) by decide)] at H; exact H
        clear H
        have H := H1
        clear H1
        have H' := Aside0.mk H
        clear H
        go_wp2
        go_loopg [7] kj3 (fun kq v7 w' => ∃ (x7_2 : Int), v7 = .int .i64 x7_2 ∧ Aside0 (turndownref08_Right.l0 kq l0 l1 x7_2 l2_0 l2_1 = some r) ∧ Aside0 (kq ≤ kj3) ∧ Aside0 (w'.heap[gb331]? = some (.cells #[(.slice A2_0 l2_0.length c2_0), (.slice A2_1 l2_1.length c2_1)] 39 (0, 0))) ∧ Aside0 (Below w.heap.size w w'))
        case atStart => exact ⟨(0), (by first | rfl | (simp; done) | (simp [*]; done)), H', ⟨Nat.le_refl _⟩, ⟨by (with_reducible repeat (first | refine blk_drewN ?_ _ | refine blk_drew ?_ | refine blk_alloc ?_ _)); exact BK331.out⟩, ⟨by repeat (first | (with_reducible first | exact HB.out | apply below_alloc | apply pw_below_drewN | apply below_drew1 | refine below_set ?_ GE331.out) | exact HB.out)⟩⟩
        case round =>
          clear H'
          try clear c1
          try clear c2
          try clear p2
          try clear c3
          try clear c7
          try clear c13
          try clear hcz10_0
          try clear hcz10_1
          try clear hcz11_0
          try clear hcz11_1
          try clear hcz8_0
          try clear hcz8_1
          try clear hfz10_0
          try clear hfz10_1
          try clear hfz11_0
          try clear hfz11_1
          try clear hfz8_0
          try clear hfz8_1
          try clear p2
          obtain ⟨x7_2, rfl, HA, HK2, BK331, HB⟩ := hrel
          cases gk with
          | zero => exact absurd HA.out (by simp [turndownref08_Right.l0])
          | succ k2 =>
            have H := HA.out
            clear HA
            simp only [turndownref08_Right.l0] at H
            by_cases c14 : x7_2 < (l2_1.length : Int)
            · rw [if_pos c14] at H
              have c14b0 : decide (x7_2 < (l2_1.length : Int)) = true := decide_eq_true c14
              clear c14
              by_cases c15 : 0 ≤ x7_2
              · rw [if_pos c15] at H
                have c15b0 : decide (0 ≤ x7_2) = true := decide_eq_true c15
                clear c15
                by_cases c16 : (rd l2_1 x7_2) < 0
                · rw [if_pos c16] at H
                  have c16b0 : decide ((rd l2_1 x7_2) < 0) = true := decide_eq_true c16
                  clear c16
                  obtain rfl := Option.some.inj H
                  have hcz17_0 : wr.cell? ⟨gb331, 0, none⟩ = some (.slice A2_0 l2_0.length c2_0) := (blk_cell BK331.out 0).trans rfl
                  have hcz17_1 : wr.cell? ⟨gb331, 1, none⟩ = some (.slice A2_1 l2_1.length c2_1) := (blk_cell BK331.out 1).trans rfl
                  have hfz17_0 := blk_frozen BK331.out 0
                  have hfz17_1 := blk_frozen BK331.out 1
                  have p333 : 0 ≤ (x7_2 : Int) := of_decide_eq_true (by first | (with_reducible assumption) | assumption)
                  have q333 : x7_2 < (l2_1.length : Int) := of_decide_eq_true (by first | (with_reducible assumption) | assumption)
                  obtain ⟨ad333, e333, hx333_0⟩ := Kd.at_int HR2_1.out x7_2 p333 q333
                  cases e333
                  replace hx333_0 := (HB.out.cell (World.block_lt_of_cell? w _ hx333_0)).trans hx333_0
                  replace p333 := eq_true p333
                  replace q333 := eq_true q333
                  go_wp2
                  go_ret
                  exact ⟨by first | rfl | (simp [errW_none, errW_some] <;> rfl) | (simp [*, errW_none, errW_some] <;> rfl), by repeat (first | (with_reducible first | exact HB.out | apply below_alloc | apply pw_below_drewN | apply below_drew1 | refine below_set ?_ GE331.out) | exact HB.out)⟩
                · rw [if_neg c16] at H
                  have c16b0 : decide ((rd l2_1 x7_2) < 0) = false := decide_eq_false c16
                  clear c16
                  by_cases c18 : (rd l2_1 x7_2) > 1099511627776
                  · rw [if_pos c18] at H
                    have c18b0 : decide (1099511627776 < (rd l2_1 x7_2)) = true := decide_eq_true c18
                    clear c18
                    obtain rfl := Option.some.inj H
                    have hcz19_0 : wr.cell? ⟨gb331, 0, none⟩ = some (.slice A2_0 l2_0.length c2_0) := (blk_cell BK331.out 0).trans rfl
                    have hcz19_1 : wr.cell? ⟨gb331, 1, none⟩ = some (.slice A2_1 l2_1.length c2_1) := (blk_cell BK331.out 1).trans rfl
                    have hfz19_0 := blk_frozen BK331.out 0
                    have hfz19_1 := blk_frozen BK331.out 1
                    have p333 : 0 ≤ (x7_2 : Int) := of_decide_eq_true (by first | (with_reducible assumption) | assumption)
                    have q333 : x7_2 < (l2_1.length : Int) := of_decide_eq_true (by first | (with_reducible assumption) | assumption)
                    obtain ⟨ad333, e333, hx333_0⟩ := Kd.at_int HR2_1.out x7_2 p333 q333
                    cases e333
                    replace hx333_0 := (HB.out.cell (World.block_lt_of_cell? w _ hx333_0)).trans hx333_0
                    replace p333 := eq_true p333
                    replace q333 := eq_true q333
                    have p334 : 0 ≤ (x7_2 : Int) := of_decide_eq_true (by first | (with_reducible assumption) | assumption)
                    have q334 : x7_2 < (l2_1.length : Int) := of_decide_eq_true (by first | (with_reducible assumption) | assumption)
                    obtain ⟨ad334, e334, hx334_0⟩ := Kd.at_int HR2_1.out x7_2 p334 q334
                    obtain rfl : ad333 = ad334 := (by injection e334)
                    replace hx334_0 := (HB.out.cell (World.block_lt_of_cell? w _ hx334_0)).trans hx334_0
                    replace p334 := eq_true p334
                    replace q334 := eq_true q334
                    go_wp2
                    go_ret
                    exact ⟨by first | rfl | (simp [errW_none, errW_some] <;> rfl) | (simp [*, errW_none, errW_some] <;> rfl), by repeat (first | (with_reducible first | exact HB.out | apply below_alloc | apply pw_below_drewN | apply below_drew1 | refine below_set ?_ GE331.out) | exact HB.out)⟩
                  · rw [if_neg c18] at H
                    have c18b0 : decide (1099511627776 < (rd l2_1 x7_2)) = false := decide_eq_false c18
                    clear c18
                    have H' := Aside0.mk H
                    clear H
                    have hcz20_0 : wr.cell? ⟨gb331, 0, none⟩ = some (.slice A2_0 l2_0.length c2_0) := (blk_cell BK331.out 0).trans rfl
                    have hcz20_1 : wr.cell? ⟨gb331, 1, none⟩ = some (.slice A2_1 l2_1.length c2_1) := (blk_cell BK331.out 1).trans rfl
                    have hfz20_0 := blk_frozen BK331.out 0
                    have hfz20_1 := blk_frozen BK331.out 1
                    have p333 : 0 ≤ (x7_2 : Int) := of_decide_eq_true (by first | (with_reducible assumption) | assumption)
                    have q333 : x7_2 < (l2_1.length : Int) := of_decide_eq_true (by first | (with_reducible assumption) | assumption)
                    obtain ⟨ad333, e333, hx333_0⟩ := Kd.at_int HR2_1.out x7_2 p333 q333
                    cases e333
                    replace hx333_0 := (HB.out.cell (World.block_lt_of_cell? w _ hx333_0)).trans hx333_0
                    replace p333 := eq_true p333
                    replace q333 := eq_true q333
                    have p334 : 0 ≤ (x7_2 : Int) := of_decide_eq_true (by first | (with_reducible assumption) | assumption)
                    have q334 : x7_2 < (l2_1.length : Int) := of_decide_eq_true (by first | (with_reducible assumption) | assumption)
                    obtain ⟨ad334, e334, hx334_0⟩ := Kd.at_int HR2_1.out x7_2 p334 q334
                    obtain rfl : ad333 = ad334 := (by injection e334)
                    replace hx334_0 := (HB.out.cell (World.block_lt_of_cell? w _ hx334_0)).trans hx334_0
                    replace p334 := eq_true p334
                    replace q334 := eq_true q334
                    go_wp2
                    go_roundg k2
                    case measure => have := HJ3.out; have := HK2.out; omega
                    case rel => exact ⟨(wrap64 (x7_2 + 1)), (by first | rfl | (simp; done) | (simp [*]; done)), H', ⟨by have := HJ3.out; have := HK2.out; omega⟩, ⟨by (with_reducible repeat (first | refine blk_drewN ?_ _ | refine blk_drew ?_ | refine blk_alloc ?_ _)); exact BK331.out⟩, ⟨by repeat (first | (with_reducible first | exact HB.out | apply below_alloc | apply pw_below_drewN | apply below_drew1 | refine below_set ?_ GE331.out) | exact HB.out)⟩⟩
              · rw [if_neg c15] at H
                exact absurd H (by simp)
            · rw [if_neg c14] at H
              have c14b0 : decide (x7_2 < (l2_1.length : Int)) = false := decide_eq_false c14
              clear c14
              replace H := Option.bind_eq_some_iff.mp H
              obtain ⟨t335, A210, H⟩ := H
              replace H : ((turndownref08_Bound.f k2 l0 l1 l2_1).bind fun t336 => (some (t335 == t336))) = some r := H
              have A21 := Aside0.mk A210
              clear A210
              replace H := Option.bind_eq_some_iff.mp H
              obtain ⟨t336, A220, H⟩ := H
              replace H : (some (t335 == t336)) = some r := H
              have A22 := Aside0.mk A220
              clear A220
              obtain rfl := Option.some.inj H
              have hcz23_0 : wr.cell? ⟨gb331, 0, none⟩ = some (.slice A2_0 l2_0.length c2_0) := (blk_cell BK331.out 0).trans rfl
              have hcz23_1 : wr.cell? ⟨gb331, 1, none⟩ = some (.slice A2_1 l2_1.length c2_1) := (blk_cell BK331.out 1).trans rfl
              have hfz23_0 := blk_frozen BK331.out 0
              have hfz23_1 := blk_frozen BK331.out 1
              try go_wp2
              have n0_ := Aside0.mk (blk_drew BK331.out)
              have n1_ := Aside0.mk (below_drew1 HB.out)
              clear BK331
              clear HB
              have BK331 := n0_
              have HB := n1_
              clear n0_ n1_
              refine start_ (n := 11) (S := fun w' => w'.cell? ⟨gb331, 0, none⟩ = some (.slice A2_0 l2_0.length c2_0) ∧ w'.cell? ⟨gb331, 1, none⟩ = some (.slice A2_1 l2_1.length c2_1)) (ds := []) #[false, false, false, false, false, false, false, false, false, false, false] (by kernel_rfl) rfl rfl ⟨(blk_cell BK331.out 0).trans rfl, (blk_cell BK331.out 1).trans rfl⟩ (fun hHeld => ?_); refine with_tabW turndownref08_Right.tab8 turndownref08_Right.bits8 (fun HT_ HW_ => ?_)
              generalize wr.drew = w24 at BK331 HB hHeld ⊢
              refine pure_ (i := 0) (N := some 43) (v := ?_) (a' := ?_) #[true, false, false, false, false, false, false, false, false, false, false] rfl rfl (any_of HT_.out (by kernel_rfl)) (fun _ _ _ h => h) (Or.inl ⟨by rfl, ?_⟩) ?_ ?_
              rotate_left
              · intro w'
                go_simp
                with_reducible rfl
              rotate_left
              · simp only [Act.put, List.setIfInBounds_toArray, List.set_cons_zero, List.set_cons_succ, i64_w, i32_w]
                rfl
              refine pure_ (i := 1) (N := some 44) (v := ?_) (a' := ?_) #[true, true, false, false, false, false, false, false, false, false, false] rfl rfl (any_of HT_.out (by kernel_rfl)) (fun _ _ _ h => h) (Or.inl ⟨by rfl, ?_⟩) ?_ ?_
              rotate_left
              · intro w'
                go_simp
                with_reducible rfl
              rotate_left
              · simp only [Act.put, List.setIfInBounds_toArray, List.set_cons_zero, List.set_cons_succ, i64_w, i32_w]
                rfl
              refine pure_ (i := 4) (N := some 47) (v := ?_) (a' := ?_) #[true, true, false, false, true, false, false, false, false, false, false] rfl rfl (any_of HT_.out (by kernel_rfl)) (fun _ _ _ h => h) (Or.inl ⟨by rfl, ?_⟩) ?_ ?_
              rotate_left
              · intro w'
                go_simp
                with_reducible rfl
              rotate_left
              · simp only [Act.put, List.setIfInBounds_toArray, List.set_cons_zero, List.set_cons_succ, i64_w, i32_w]
                rfl
              refine pure_ (i := 5) (N := some 48) (v := ?_) (a' := ?_) #[true, true, false, false, true, true, false, false, false, false, false] rfl rfl (any_of HT_.out (by kernel_rfl)) (fun _ _ _ h => h) (Or.inl ⟨by rfl, ?_⟩) ?_ ?_
              rotate_left
              · intro w'
                go_simp
                with_reducible rfl
              rotate_left
              · simp only [Act.put, List.setIfInBounds_toArray, List.set_cons_zero, List.set_cons_succ, i64_w, i32_w]
                rfl
              refine pure_ (i := 6) (N := some 49) (v := ?_) (a' := ?_) #[true, true, false, false, true, true, true, false, false, false, false] rfl rfl (any_of HT_.out (by kernel_rfl)) (fun _ _ _ h => h) (Or.inl ⟨by rfl, ?_⟩) ?_ ?_
              rotate_left
              · intro w'
                go_simp
                with_reducible rfl
              rotate_left
              · simp only [Act.put, List.setIfInBounds_toArray, List.set_cons_zero, List.set_cons_succ, i64_w, i32_w]
                rfl
              refine take_ (i := 2) (N := some 45) (v := ?_) (a' := ?_) #[true, true, true, false, true, true, true, false, false, false, false] rfl rfl (take_ofW HT_.out HW_.out (by kernel_rfl)) (fun _ _ _ h => h) (Or.inl ⟨by rfl, ?_⟩) hHeld ?_ ?_
              rotate_left
              · rintro w' ⟨s0, s1⟩
                go_simp
                with_reducible rfl
              rotate_left
              · simp only [Act.put, List.setIfInBounds_toArray, List.set_cons_zero, List.set_cons_succ, i64_w, i32_w]
                rfl
              refine take_ (i := 7) (N := some 50) (v := ?_) (a' := ?_) #[true, true, true, false, true, true, true, true, false, false, false] rfl rfl (take_ofW HT_.out HW_.out (by kernel_rfl)) (fun _ _ _ h => h) (Or.inl ⟨by rfl, ?_⟩) hHeld ?_ ?_
              rotate_left
              · rintro w' ⟨s0, s1⟩
                go_simp
                with_reducible rfl
              rotate_left
              · simp only [Act.put, List.setIfInBounds_toArray, List.set_cons_zero, List.set_cons_succ, i64_w, i32_w]
                rfl
              refine one_ (i := 3) (N := some 46) #[true, true, true, true, true, true, true, true, false, false, false] rfl rfl (one_of HT_.out (by kernel_rfl)) (by decide) (fun K hK => ?_)
              refine goes_ Try.func28 (by kernel_rfl) rfl #[.slice A0 l0.length c0, .slice A2_0 l2_0.length c2_0] (by rfl) rfl rfl (by (try simp only [List.map_toArray, List.map_cons, List.map_nil]); first | done | rfl | (simp only [List.length_drop, List.length_take]; rfl)) ?_
              with_reducible refine (turndownref08_Revenue.calls k2 _ _ l0 _ _ l2_0 t335 _ ?side1 ?side2 ?side3 ?side4 A21.out).mono ?_
              (case side1 => repeat (first | exact (Kd.C_below HR0.out HB.out) | (with_reducible refine Kd.C_alloc ?_ _) | (with_reducible refine Kd.C_drewN ?_ _) | (with_reducible refine Kd.C_drew ?_)))
              (case side2 => exact HC0.out)
              (case side3 => repeat (first | exact (Kd.C_below HR2_0.out HB.out) | (with_reducible refine Kd.C_alloc ?_ _) | (with_reducible refine Kd.C_drewN ?_ _) | (with_reducible refine Kd.C_drew ?_)))
              (case side4 => exact HC2_0.out)
              rintro e w' ⟨rfl, ⟨nd, rfl⟩⟩
              refine ⟨_, rfl, ?_⟩
              refine hK.out _ _ ⟨(blk_cell BK331.out 0).trans rfl, (blk_cell BK331.out 1).trans rfl⟩ (fun hHeld => ?_)
              clear hK K
              refine norm_ (a' := ?_) ?_ ?_
              rotate_left
              · show Act.put _ (some 46) _ = _
                simp only [Act.put, List.setIfInBounds_toArray, List.set_cons_zero, List.set_cons_succ, i64_w, i32_w]
                rfl
              refine one_ (i := 8) (N := some 51) #[true, true, true, true, true, true, true, true, true, false, false] rfl rfl (one_of HT_.out (by kernel_rfl)) (by decide) (fun K hK => ?_)
              refine goes_ Try.func29 (by kernel_rfl) rfl #[.slice A0 l0.length c0, .slice A1 l1.length c1, .slice A2_1 l2_1.length c2_1] (by rfl) rfl rfl (by (try simp only [List.map_toArray, List.map_cons, List.map_nil]); first | done | rfl | (simp only [List.length_drop, List.length_take]; rfl)) ?_
              with_reducible refine (turndownref08_Bound.calls k2 _ _ l0 _ _ l1 _ _ l2_1 t336 _ ?side1 ?side2 ?side3 ?side4 ?side5 ?side6 A22.out).mono ?_
              (case side1 => repeat (first | exact (Kd.C_below HR0.out (by repeat (first | (with_reducible first | exact HB.out | apply below_alloc | apply pw_below_drewN | apply below_drew1 | refine below_set ?_ GE331.out) | exact HB.out))) | (with_reducible refine Kd.C_alloc ?_ _) | (with_reducible refine Kd.C_drewN ?_ _) | (with_reducible refine Kd.C_drew ?_)))
              (case side2 => exact HC0.out)
              (case side3 => repeat (first | exact (Kd.C_below HR1.out (by repeat (first | (with_reducible first | exact HB.out | apply below_alloc | apply pw_below_drewN | apply below_drew1 | refine below_set ?_ GE331.out) | exact HB.out))) | (with_reducible refine Kd.C_alloc ?_ _) | (with_reducible refine Kd.C_drewN ?_ _) | (with_reducible refine Kd.C_drew ?_)))
              (case side4 => exact HC1.out)
              (case side5 => repeat (first | exact (Kd.C_below HR2_1.out (by repeat (first | (with_reducible first | exact HB.out | apply below_alloc | apply pw_below_drewN | apply below_drew1 | refine below_set ?_ GE331.out) | exact HB.out))) | (with_reducible refine Kd.C_alloc ?_ _) | (with_reducible refine Kd.C_drewN ?_ _) | (with_reducible refine Kd.C_drew ?_)))
              (case side6 => exact HC2_1.out)
              rintro e w25 ⟨rfl, hb⟩
              refine ⟨_, rfl, ?_⟩
              have n0_ := Aside0.mk (blk_below (g := gb331) (o := .cells #[.slice A2_0 l2_0.length c2_0, .slice A2_1 l2_1.length c2_1] 39 (0, 0)) (by (with_reducible repeat (first | refine blk_drewN ?_ _ | refine blk_drew ?_ | refine blk_alloc ?_ _)); exact BK331.out) hb)
              have n1_ := Aside0.mk (below_step (by repeat (first | (with_reducible first | exact HB.out | apply below_alloc | apply pw_below_drewN | apply below_drew1 | refine below_set ?_ GE331.out) | exact HB.out)) hb)
              clear BK331
              clear HB
              have BK331 := n0_
              have HB := n1_
              clear n0_ n1_
              (try clear hb)
              (try clear hb2)
              (try clear hk)
              (try clear hi)
              refine hK.out _ _ ⟨(blk_cell BK331.out 0).trans rfl, (blk_cell BK331.out 1).trans rfl⟩ (fun hHeld => ?_)
              clear hK K
              refine norm_ (a' := ?_) ?_ ?_
              rotate_left
              · show Act.put _ (some 51) _ = _
                simp only [Act.put, List.setIfInBounds_toArray, List.set_cons_zero, List.set_cons_succ, i64_w, i32_w]
                rfl
              refine pure_ (i := 9) (N := some 52) (v := ?_) (a' := ?_) #[true, true, true, true, true, true, true, true, true, true, false] rfl rfl (any_of HT_.out (by kernel_rfl)) (fun _ _ _ h => h) (Or.inl ⟨by rfl, ?_⟩) ?_ ?_
              rotate_left
              · intro w'
                go_simp
                with_reducible rfl
              rotate_left
              · simp only [Act.put, List.setIfInBounds_toArray, List.set_cons_zero, List.set_cons_succ, i64_w, i32_w]
                rfl
              refine pure_ (i := 10) (N := some 6) (v := ?_) (a' := ?_) #[true, true, true, true, true, true, true, true, true, true, true] rfl rfl (any_of HT_.out (by kernel_rfl)) (fun _ _ _ h => h) (Or.inl ⟨by rfl, ?_⟩) ?_ ?_
              rotate_left
              · intro w'
                go_simp
                with_reducible rfl
              rotate_left
              · simp only [Act.put, List.setIfInBounds_toArray, List.set_cons_zero, List.set_cons_succ, i64_w, i32_w]
                rfl
              refine done_ (done_of HT_.out (by kernel_rfl)) ?_
              try go_wp2
              go_ret
              exact ⟨by first | rfl | (simp [errW_none, errW_some] <;> rfl) | (simp [*, errW_none, errW_some] <;> rfl), by repeat (first | (with_reducible first | exact HB.out | apply below_alloc | apply pw_below_drewN | apply below_drew1 | refine below_set ?_ GE331.out) | exact HB.out)⟩
end Go.Proofs.Ytpjobcnfjpbaeaa.PA

namespace Go.Proofs.Ytpjobcnfjpbaeaa.M
open Go.RowKit Go.Proofs.YtpjobcnfjpbaeaaW.PrintWords Go.Proofs.YtpjobcnfjpbaeaaW.PrintLast Go.Proofs.YtpjobcnfjpbaeaaW.PrintMore
open Go.Proofs.Ytpjobcnfjpbaeaa.PA Go.Proofs.Ytpjobcnfjpbaeaa.A
open Classical in
theorem right_l0 {l : List S47} {rooms tk pr : List Int} (hg : A.Good l rooms) (hlen : pr.length = rooms.length) (ha : Asc l.length tk) (hfit : (inst l rooms).Fit (ind tk)) : ∀ d i, i + d = pr.length → (∀ j, j < i → 0 ≤ pr.getD j 0 ∧ pr.getD j 0 ≤ 1099511627776) →
    Ev (fun k => turndownref08_Right.l0 k l rooms (i : Int) tk pr) (decide (RightP l rooms tk pr)) := by
  have hn := hg.nights
  intro d
  induction d with
  | zero =>
    intro i hi hp
    obtain rfl : i = pr.length := by omega
    have hrng : ∀ j, j < rooms.length → 0 ≤ pr.getD j 0 ∧ pr.getD j 0 ≤ 1099511627776 := fun j hj => hp j (by omega)
    refine Ev.step (f := fun k => (turndownref08_Revenue.f k l tk).bind fun t => (turndownref08_Bound.f k l rooms pr).bind fun u => some (t == u)) (fun k => ?_) (Ev.bind (refRev_ev hg ha) (Ev.bind (bound_ev hg hlen hrng) (Ev.congr (fun k => ?_) (Ev.now _))))
    · rw [turndownref08_Right.l0, if_neg (by omega)]
    · congr 1
      rw [Bool.eq_iff_iff]
      simp only [beq_iff_eq, decide_eq_true_eq]
      exact ⟨fun h => ⟨ha, hfit, hlen, hrng, h⟩, fun h => h.eq⟩
  | succ d ih =>
    intro i hi hp
    have hil : i < pr.length := by omega
    by_cases h1 : pr.getD i 0 < 0
    · rw [decide_eq_false (fun h => by have := h.rng i (by omega); omega)]
      refine Ev.step (f := fun _ => some false) (fun k => ?_) (Ev.now _)
      rw [turndownref08_Right.l0, if_pos (by omega), if_pos (by omega), rdI, if_pos h1]
    by_cases h2 : pr.getD i 0 > 1099511627776
    · rw [decide_eq_false (fun h => by have := h.rng i (by omega); omega)]
      refine Ev.step (f := fun _ => some false) (fun k => ?_) (Ev.now _)
      rw [turndownref08_Right.l0, if_pos (by omega), if_pos (by omega), rdI, if_neg h1, if_pos h2]
    refine Ev.step (fun k => ?_) (ih (i + 1) (by omega) (fun j hj => by
      by_cases e : j = i
      · subst e; omega
      · exact hp j (by omega)))
    rw [turndownref08_Right.l0, if_pos (by omega), if_pos (by omega), rdI, if_neg h1, if_neg h2, wrap_succ hil (by omega)]
open Classical in
theorem refRight_ev {l : List S47} {rooms tk pr : List Int} (hg : A.Good l rooms) (htk : tk.length ≤ 1000) : Ev (fun k => turndownref08_Right.f k l rooms tk pr) (decide (RightP l rooms tk pr)) := by
  refine Ev.bind (fits_ev hg htk) ?_
  by_cases hF : FitsP l rooms tk
  · simp only [decide_eq_true hF, if_true]
    by_cases hlen : pr.length = rooms.length
    · have e : ((pr.length : Int) != (rooms.length : Int)) = false := by simp [hlen]
      rw [e]
      refine Ev.step (fun k => ?_) (right_l0 hg hlen hF.asc hF.fit pr.length 0 (by omega) (fun j hj => by omega))
      rw [turndownref08_Right.j0, if_neg (by simp)]
      rfl
    · have e : ((pr.length : Int) != (rooms.length : Int)) = true := by simp; omega
      rw [e, decide_eq_false (fun h => hlen h.len)]
      refine Ev.step (f := fun _ => some false) (fun k => ?_) (Ev.now _)
      rw [turndownref08_Right.j0, if_pos rfl]
  · simp only [decide_eq_false hF, Bool.false_eq_true, if_false]
    rw [decide_eq_false (fun h => hF ⟨h.asc, h.fit⟩)]
    refine Ev.step (f := fun _ => some false) (fun k => ?_) (Ev.now _)
    rw [turndownref08_Right.j0, if_pos rfl]
theorem best_right {l : List S47} {rooms : List Int} (hg : A.Good l rooms) : ∃ K tk pr v, (∀ k, K ≤ k → bestF k l rooms = some (tk, pr, v)) ∧ RightP l rooms tk pr ∧ (inst l rooms).Rev (ind tk) = v ∧ (inst l rooms).Opt v ∧ 0 ≤ v ∧ v ≤ 40000000 ∧ tk.length ≤ 40 := by
  obtain ⟨K, tk, pr, v, h1, h2, h3, h4, h5, h6, h7, h8, h9, h10⟩ := best_opt hg
  have := asc_len h2
  have := hg.many
  exact ⟨K, tk, pr, v, h1, ⟨h2, h5, h3, fun j hj => by have := h4 j hj; omega, h6.trans h7.symm⟩, h6, h8, h9, h10, by omega⟩
end Go.Proofs.Ytpjobcnfjpbaeaa.M

namespace Go.Proofs.Ytpjobcnfjpbaeaa.A
open Go.RowKit Go.Proofs.YtpjobcnfjpbaeaaW.PrintWords Go.Proofs.YtpjobcnfjpbaeaaW.PrintLast Go.Proofs.YtpjobcnfjpbaeaaW.PrintMore
open Go.Proofs.Ytpjobcnfjpbaeaa.PA Go.Proofs.Ytpjobcnfjpbaeaa.M
open Classical in
theorem refRight_c (A : Option Addr) (c : Nat) (l : List S47) (A1 : Option Addr) (c1 : Nat) (r : List Int) (A2 : Option Addr) (c2 : Nat) (tk : List Int) (A3 : Option Addr) (c3 : Nat) (pr : List Int) (w : World) (h : Kd.C k47 w A l.length l) (hc : l.length ≤ c) (h1 : Kd.C (Kd.int .i64) w A1 r.length r) (hc1 : r.length ≤ c1)
    (h2 : Kd.C (Kd.int .i64) w A2 tk.length tk) (hc2 : tk.length ≤ c2) (h3 : Kd.C (Kd.int .i64) w A3 pr.length pr) (hc3 : pr.length ≤ c3) (hg : Good l r) (htk : tk.length ≤ 1000) :
    Calls Try.prog 33 #[.slice A l.length c, .slice A1 r.length c1, .agg #[.slice A2 tk.length c2, .slice A3 pr.length c3]] w fun e w' => e = .returned (.bool (decide (RightP l r tk pr))) ∧ Below w.heap.size w w' := by
  obtain ⟨k, hk⟩ := (refRight_ev (pr := pr) hg htk).rounds
  exact turndownref08_Right.calls k A c l A1 c1 r A2 c2 tk A3 c3 pr _ w h hc h1 hc1 h2 hc2 h3 hc3 hk
open Classical in
theorem refRight_t (A : Option Addr) (c : Nat) (l : List S47) (A1 : Option Addr) (c1 : Nat) (r : List Int) (A2 : Option Addr) (c2 : Nat) (tk : List Int) (A3 : Option Addr) (c3 : Nat) (pr : List Int) (w : World) (h : Kd.C k47 w A l.length l) (hc : l.length ≤ c) (h1 : Kd.C (Kd.int .i64) w A1 r.length r) (hc1 : r.length ≤ c1)
    (h2 : Kd.C (Kd.int .i64) w A2 tk.length tk) (hc2 : tk.length ≤ c2) (h3 : Kd.C (Kd.int .i64) w A3 pr.length pr) (hc3 : pr.length ≤ c3) (hg : Good l r) (htk : tk.length ≤ 1000) (hrp : RightP l r tk pr) :
    Calls Try.prog 33 #[.slice A l.length c, .slice A1 r.length c1, .agg #[.slice A2 tk.length c2, .slice A3 pr.length c3]] w fun e w' => e = .returned (.bool true) ∧ Below w.heap.size w w' := by
  have := refRight_c A c l A1 c1 r A2 c2 tk A3 c3 pr w h hc h1 hc1 h2 hc2 h3 hc3 hg htk
  rw [decide_eq_true hrp] at this
  exact this
theorem Accept_yes (A : Option Addr) (c : Nat) (l : List S47) (A1 : Option Addr) (c1 : Nat) (r : List Int) (w : World) (h : Kd.C k47 w A l.length l) (hc : l.length ≤ c) (h1 : Kd.C (Kd.int .i64) w A1 r.length r) (hg : Good l r) :
    ∃ tk pr v, RightP l r tk pr ∧ (inst l r).Rev (ind tk) = v ∧ (inst l r).Opt v ∧ 0 ≤ v ∧ v ≤ 40000000 ∧ tk.length ≤ 40 ∧
    Calls Try.prog 30 #[.slice A l.length c, .slice A1 r.length c1] w fun e w' => ∃ v1 v2, e = .returned (.tuple #[.agg #[v1, v2], .int .i64 v, .int .i64 0]) ∧
      w'.ownsRow w.heap.size 3 1 v1 tk.length (ints tk) ∧ w'.ownsRow w.heap.size 3 1 v2 pr.length (ints pr) ∧ (∀ k, v1.ownBlock = some k → v2.ownBlock ≠ some k) ∧ Below w.heap.size w w' := by
  obtain ⟨K, tk, pr, v, b1, b2, b3, b4, b5, b6, b7⟩ := best_right hg
  exact ⟨tk, pr, v, b2, b3, b4, b5, b6, b7, Accept_c A c l A1 c1 K r tk pr v w h hc h1 hg (b1 K (Nat.le_refl _))⟩
end Go.Proofs.Ytpjobcnfjpbaeaa.A

namespace Go.Proofs.Ytpjobcnfjpbaeaa.PA
open Go.RowKit Go.Proofs.YtpjobcnfjpbaeaaW.PrintWords Go.Proofs.YtpjobcnfjpbaeaaW.PrintLast Go.Proofs.YtpjobcnfjpbaeaaW.PrintMore
attribute [local go_sem] max2_int min2_int max_two min_two max_three min_three max_four min_four
set_option linter.unusedVariables false
set_option linter.unusedSimpArgs false
def turndownlaw08_mod.f (a0 : Int) (a1 : Int) : Option (Int) := if (IntKind.u64.wrap (a1)) = 0 then (none) else (some (wrap64 (Int.tmod (IntKind.u64.wrap (a0)) (IntKind.u64.wrap (a1)))))
set_option maxHeartbeats 8000000 in
set_option maxRecDepth 100000 in
theorem turndownlaw08_mod.calls (a0 : Int) (a1 : Int) (r : Int) (w : World) (h : turndownlaw08_mod.f a0 a1 = some r) :
    Calls Try.prog 26 #[.int .i64 a0, .int .i64 a1] w fun e w' => e = .returned (.int .i64 r) ∧ Drawn0 w w' := by
  have H : (if (IntKind.u64.wrap (a1)) = 0 then (none) else (some (wrap64 (Int.tmod (IntKind.u64.wrap (a0)) (IntKind.u64.wrap (a1)))))) = some r := h
  clear h
  by_cases c3 : (IntKind.u64.wrap (a1)) = 0
  · rw [if_pos c3] at H
    exact absurd H (by simp)
  · rw [if_neg c3] at H
    have c3b0 : ((IntKind.u64.wrap (a1)) == 0) = false := beq_eq_false_iff_ne.mpr c3
    have c3b1 : ((IntKind.u64.wrap (a1)) != 0) = true := bne_iff_ne.mpr c3
    obtain rfl := Option.some.inj H
    go_enter Try.func26, Try.ntmps26
    go_wp2
    go_ret
    exact ⟨by first | rfl | (simp; done) | (simp [*]; done), by repeat (first | exact Drawn0.refl _ | apply Drawn0.step)⟩
end Go.Proofs.Ytpjobcnfjpbaeaa.PA

namespace Go.Proofs.Ytpjobcnfjpbaeaa.A
open Go.RowKit Go.Proofs.YtpjobcnfjpbaeaaW.PrintWords Go.Proofs.YtpjobcnfjpbaeaaW.PrintLast Go.Proofs.YtpjobcnfjpbaeaaW.PrintMore
open Go.Proofs.Ytpjobcnfjpbaeaa.PA Go.Proofs.Ytpjobcnfjpbaeaa.M
theorem wrapI {x : Int} (h : -4611686018427387904 ≤ x ∧ x ≤ 4611686018427387904) : wrap64 x = x := by unfold wrap64; omega
def modV (x n : Int) : Int := wrap64 (Int.tmod (IntKind.u64.wrap x) (IntKind.u64.wrap n))
theorem modV_bd {x n : Int} (h1 : 1 ≤ n) (h2 : n ≤ 10000000) : 0 ≤ modV x n ∧ modV x n < n ∧ turndownlaw08_mod.f x n = some (modV x n) := by
  have e : IntKind.u64.wrap n = n := IntWalk.u64_in n (by omega)
  have e2 : IntKind.u64.wrap x = x % 18446744073709551616 := IntKind.wrap_u64 x
  have h0 : 0 ≤ x % 18446744073709551616 := Int.emod_nonneg _ (by omega)
  have h3 : Int.tmod (x % 18446744073709551616) n = (x % 18446744073709551616) % n := Int.tmod_eq_emod_of_nonneg h0
  have h4 : 0 ≤ (x % 18446744073709551616) % n := Int.emod_nonneg _ (by omega)
  have h5 : (x % 18446744073709551616) % n < n := Int.emod_lt_of_pos _ (by omega)
  have h6 : modV x n = (x % 18446744073709551616) % n := by
    unfold modV
    rw [e, e2, h3]
    exact wrapI (by omega)
  refine ⟨by omega, by omega, ?_⟩
  unfold turndownlaw08_mod.f
  rw [e, if_neg (by omega)]
  unfold modV
  rw [e]
theorem mod_c (x n : Int) (w : World) (h1 : 1 ≤ n) (h2 : n ≤ 10000000) : Calls Try.prog 26 #[.int .i64 x, .int .i64 n] w fun e w' => e = .returned (.int .i64 (modV x n)) ∧ ∃ q, w' = w.drewN q :=
  (turndownlaw08_mod.calls x n _ w (modV_bd h1 h2).2.2).mono fun _ _ h => ⟨h.1, h.2.out⟩
def tameF (x : S47) (n : Int) : Int := if x.f0 < 0 ∨ n < x.f1 ∨ x.f1 ≤ x.f0 then modV x.f0 n else x.f0
def tameT (x : S47) (n : Int) : Int := if x.f0 < 0 ∨ n < x.f1 ∨ x.f1 ≤ x.f0 then modV x.f0 n + 1 + modV x.f1 (n - modV x.f0 n) else x.f1
def tameP (x : S47) : Int := if x.f2 < 0 ∨ 1000000 < x.f2 then modV x.f2 1000001 else x.f2
def tame1 (n : Int) (x : S47) : S47 := ⟨tameF x n, tameT x n, tameP x⟩
theorem tame1_ok {n : Int} (h1 : 1 ≤ n) (h2 : n ≤ 1000) (x : S47) : 0 ≤ (tame1 n x).f0 ∧ (tame1 n x).f0 < (tame1 n x).f1 ∧ (tame1 n x).f1 ≤ n ∧ 0 ≤ (tame1 n x).f2 ∧ (tame1 n x).f2 ≤ 1000000 := by
  have a := modV_bd (x := x.f0) h1 (by omega)
  have b := modV_bd (x := x.f1) (n := n - modV x.f0 n) (by omega) (by omega)
  have c := modV_bd (x := x.f2) (n := 1000001) (by omega) (by omega)
  have a1 := a.1
  have a2 := a.2.1
  have b1 := b.1
  have b2 := b.2.1
  have c1 := c.1
  have c2 := c.2.1
  simp only [tame1, tameF, tameT, tameP]
  clear a b c
  split <;> split <;> omega
set_option maxRecDepth 100000 in
set_option maxHeartbeats 6400000 in
theorem tame_c (A : Option Addr) (c : Nat) (l : List S47) (n most : Nat) (w : World) (hr : Kd.C k47 w A l.length l) (hc : l.length ≤ c) (hn : 1 ≤ n ∧ n ≤ 1000) (hm : most ≤ 1000) :
    Calls Try.prog 24 #[.slice A l.length c, .int .i64 (n : Int), .int .i64 (most : Int)] w fun e w' => ∃ v, e = .returned v ∧ Kd.R k47 47 w' w.heap.size (fun _ => True) v ((l.take most).map (tame1 n)) ∧ Below w.heap.size w w' := by
  have hl : l.length ≤ 9223372036854775807 := hr.2.1
  have HR := Lib.hid hr
  obtain ⟨hn1, hn2⟩ := hn
  obtain ⟨M, hM⟩ : ∃ M, M = l.map (tame1 n) := ⟨_, rfl⟩
  have hfin : (l.take most).map (tame1 n) = M.take most := by rw [hM, List.map_take]
  rw [hfin]
  have hML : M.length = l.length := by rw [hM, List.length_map]
  have HM := Lib.hid hM
  have HML := Lib.hid hML
  clear hr hM hfin hML
  go_enter Try.func24, Try.ntmps24
  go_wp2_with fail
  go_loopw [7, 8] (fun v7 v8 wr => ∃ (q : Nat), v8 = .int .i64 (q : Int) ∧ q ≤ l.length ∧ q ≤ most ∧ Hid (Kd.R k47 47 wr w.heap.size (fun _ => True) v7 (M.take q)) ∧ Below w.heap.size w wr) (fun _ v8 _ => most - (intOf v8).toNat)
  case atStart => exact ⟨0, rfl, Nat.zero_le _, Nat.zero_le _, Kd.R_nil _ _ _ _ _, Below.refl _ _⟩
  case round =>
    obtain ⟨q, rfl, hq, hqm, HO, hB⟩ := hrel
    by_cases hlt : q < l.length
    · by_cases hlm : q < most
      · have hlt' : (q : Int) < l.length := by omega
        have hlm' : (q : Int) < most := by omega
        obtain ⟨ad, x, eA, HX, x0, x1, x2⟩ := at_bk HR.out hB q hlt
        cases eA
        have hnext : M.take (q + 1) = M.take q ++ [tame1 n x] := by
          rw [List.take_add_one, HM.out, List.getElem?_map, HX.out]; simp
        have hlen : (M.take q).length = q := by rw [List.length_take, HML.out]; omega
        obtain ⟨f, t, p⟩ := x
        simp only at x0 x1 x2
        have HNX := Lib.hid hnext
        have HLEN := Lib.hid hlen
        have hsw := hB.size
        obtain ⟨W0, hW0⟩ : ∃ W0, W0 = wr.alloc (Obj.cells #[Value.int .i64 f, Value.int .i64 t, Value.int .i64 p] 47) := ⟨_, rfl⟩
        have hBW0 : Below wr.heap.size wr W0 := by rw [hW0]; exact (Below.refl _ _).alloc (Nat.le_refl _) _
        have hg0 : W0.heap[wr.heap.size]? = some (.cells #[Value.int .i64 f, Value.int .i64 t, Value.int .i64 p] 47 (0, 0)) := by rw [hW0]; exact heap_alloc_new _ _
        have hs0 : W0.heap.size = wr.heap.size + 1 := by rw [hW0]; simp
        have HW0 := Lib.hid hW0
        have HBW0 := Lib.hid hBW0
        have HG0 := Lib.hid hg0
        clear hnext hlen hW0 hBW0 hg0
        by_cases k1 : f < 0
        · have ha := modV_bd (x := f) (n := n) (by omega) (by omega)
          have ha1 := ha.1
          have ha2 := ha.2.1
          have hb0 := modV_bd (x := t) (n := (n : Int) - modV f n) (by omega) (by omega)
          have hb1 := hb0.1
          have hb2 := hb0.2.1
          have HMF := Lib.hid (fun w => mod_c f n w (by omega) (by omega))
          have HMT := Lib.hid (fun w => mod_c t ((n : Int) - modV f n) w (by omega) (by omega))
          obtain ⟨mf, hmf⟩ : ∃ mf, mf = modV f n := ⟨_, rfl⟩
          rw [← hmf] at HMF HMT ha1 ha2 hb0 hb1 hb2
          obtain ⟨mt, hmt⟩ : ∃ mt, mt = modV t ((n : Int) - mf) := ⟨_, rfl⟩
          rw [← hmt] at HMT hb1 hb2
          have HMFE := Lib.hid hmf
          have HMTE := Lib.hid hmt
          clear ha hb0 hmf hmt
          go_wp2_with fail
          rw [← HW0.out]
          refine (HMF.out _).mono ?_
          rintro e w3 ⟨rfl, n3, rfl⟩
          have z00 : W0.cell? ⟨wr.heap.size, 0, none⟩ = some (.int .i64 (f)) := by simp [World.cell?, HG0.out]
          have z10 : W0.cell? ⟨wr.heap.size, 1, none⟩ = some (.int .i64 (t)) := by simp [World.cell?, HG0.out]
          have z20 : W0.cell? ⟨wr.heap.size, 2, none⟩ = some (.int .i64 (p)) := by simp [World.cell?, HG0.out]
          have zf0 : ∀ k, W0.frozen? ⟨wr.heap.size, k, none⟩ = false := fun k => by simp [World.frozen?, HG0.out]
          obtain ⟨W1, hW1⟩ : ∃ W1, W1 = (W0.drewN n3).setCell ⟨wr.heap.size, 0, none⟩ (.int .i64 mf) := ⟨_, rfl⟩
          have HG1 : Hid (W1.heap[wr.heap.size]? = some (.cells #[Value.int .i64 mf, Value.int .i64 t, Value.int .i64 p] 47 (0, 0))) := Lib.hid (by rw [hW1]; have := HG0.out; simp [World.setCell, Array.getElem?_modify, World.drewN, this])
          have HB1 : Hid (Below wr.heap.size wr W1) := Lib.hid (by rw [hW1]; exact (HBW0.out.trans ((pw_below_drewN (Below.refl _ _) n3).mono (by show wr.heap.size ≤ W0.heap.size; omega))).setCell (p := ⟨wr.heap.size, 0, none⟩) (Nat.le_refl _) _)
          have hs1 : W1.heap.size = wr.heap.size + 1 := by rw [hW1]; simp [World.setCell, World.drewN, hs0]
          have HW1 := Lib.hid hW1
          clear hW1
          go_wp2_with fail
          rw [← HW1.out]
          clear z00 z10 z20 zf0
          have CE : Hid (∀ w', R.Keeps [] W1 w' → w'.cell? ⟨wr.heap.size, 0, none⟩ = some (.int .i64 mf) ∧ w'.cell? ⟨wr.heap.size, 1, none⟩ = some (.int .i64 t)) := Lib.hid (fun w' h =>
            ⟨h.cell (a := ⟨wr.heap.size, 0, none⟩) (by simp [World.cell?, HG1.out]) (by simp), h.cell (a := ⟨wr.heap.size, 1, none⟩) (by simp [World.cell?, HG1.out]) (by simp)⟩)
          have hk1 : mf ≤ 1000 := by omega
          have hk2 : mt ≤ 1000 := by omega
          have hk3 : (n : Int) ≤ 1000 := by omega
          have hi3 : -4611686018427387904 ≤ mf + 1 + mt ∧ mf + 1 + mt ≤ 4611686018427387904 := by omega
          have hi2 : -4611686018427387904 ≤ (n : Int) - mf ∧ (n : Int) - mf ≤ 4611686018427387904 := by omega
          have hi1 : -4611686018427387904 ≤ mf + 1 ∧ mf + 1 ≤ 4611686018427387904 := by omega
          have e1 : IntKind.i64.wrap (mf + 1) = mf + 1 := by rw [i64_w]; exact wrapI hi1
          have e2 : IntKind.i64.wrap ((n : Int) - mf) = (n : Int) - mf := by rw [i64_w]; exact wrapI hi2
          have e3 : IntKind.i64.wrap (mf + 1 + mt) = mf + 1 + mt := by rw [i64_w]; exact wrapI hi3
          clear hi1 hi2 hi3
          apply R.wp_region_text [0, 1, 2, 3, 4, 5, 6, 7, 8] [9, 10, 11, 12] 12 (R.Keeps [] W1)
          case hm => kernel_rfl
          case hB => kernel_rfl
          case hd => rfl
          case hQ => exact fun _ _ _ _ _ h => h
          case hS => exact (R.Keeps.refl _ _).drew
          case hF =>
            intro w' hS
            obtain ⟨c1, c2⟩ := CE.out w' hS
            have HS := Lib.hid hS
            clear hS
            simp only [R.pickC, List.filterMap_cons, List.getElem?_toArray, List.getElem?_cons_zero, List.getElem?_cons_succ, List.filterMap_nil]
            iterate 9 ((with_reducible refine R.wpStill_plain rfl (fun K hK => ?_)); go_simp; with_reducible refine hK _ ?_; clear hK K)
            exact wpStill_nil rfl
          case hC =>
            simp only [R.chainOf, List.getElem?_toArray, List.getElem?_cons_zero, List.getElem?_cons_succ, Nat.reduceBNe, Bool.and_true, Bool.and_false, Bool.false_and]
            refine R.wpSeq_same (fun K hK => ?_)
            go_simp
            refine (HMT.out _).mono ?_
            rintro e w4 ⟨rfl, n4, rfl⟩
            have hk4 : R.Keeps [] W1 (W1.drewN (1 + n4)) := R.Keeps.of_below [] (pw_below_drewN (Below.refl _ _) (1 + n4))
            refine hK _ _ (((R.Keeps.refl _ _).drew).below (pw_below_drewN (Below.refl _ _) n4)) ?_
            clear hK K
            refine R.wpSeq_same (fun K hK => ?_)
            go_simp
            with_reducible refine hK _ _ hk4 ?_
            clear hK K
            refine R.wpSeq_same (fun K hK => ?_)
            go_simp
            with_reducible refine hK _ _ hk4 ?_
            clear hK K
            clear e1 e2 e3
            refine R.wpSeq_tail _ rfl ?_
            simp only [List.map_cons, List.map_nil]
            have HG4 : Hid ((W1.drewN (1 + n4)).heap[wr.heap.size]? = some (.cells #[Value.int .i64 mf, Value.int .i64 t, Value.int .i64 p] 47 (0, 0))) := Lib.hid (by have := HG1.out; simpa [World.drewN, World.drew] using this)
            have HK4 := Lib.hid hk4
            clear hk4
            have z04 : (W1.drewN (1 + n4)).cell? ⟨wr.heap.size, 0, none⟩ = some (.int .i64 (mf)) := by simp [World.cell?, HG1.out]
            have z14 : (W1.drewN (1 + n4)).cell? ⟨wr.heap.size, 1, none⟩ = some (.int .i64 (t)) := by simp [World.cell?, HG1.out]
            have z24 : (W1.drewN (1 + n4)).cell? ⟨wr.heap.size, 2, none⟩ = some (.int .i64 (p)) := by simp [World.cell?, HG1.out]
            have zf4 : ∀ k, (W1.drewN (1 + n4)).frozen? ⟨wr.heap.size, k, none⟩ = false := fun k => by simp [World.frozen?, HG1.out]
            obtain ⟨W2, hW2⟩ : ∃ W2, W2 = (W1.drewN (1 + n4)).setCell ⟨wr.heap.size, 1, none⟩ (.int .i64 (mf + 1 + mt)) := ⟨_, rfl⟩
            have HG2 : Hid (W2.heap[wr.heap.size]? = some (.cells #[Value.int .i64 mf, Value.int .i64 (mf + 1 + mt), Value.int .i64 p] 47 (0, 0))) := Lib.hid (by rw [hW2]; have := HG1.out; simp [World.setCell, Array.getElem?_modify, this])
            have HB2 : Hid (Below wr.heap.size wr W2) := Lib.hid (by rw [hW2]; exact (HB1.out.trans (HK4.out.to_below (by omega) (fun k hk => by simp at hk))).setCell (p := ⟨wr.heap.size, 1, none⟩) (Nat.le_refl _) _)
            have hs2 : W2.heap.size = wr.heap.size + 1 := by rw [hW2]; simpa [World.setCell, World.drewN, World.drew] using hs1
            have HW2 := Lib.hid hW2
            clear hW2
            go_upto_region 9 with fail
            rw [← HW2.out]
            clear z04 z14 z24 zf4
            have hft : tameF ⟨f, t, p⟩ n = mf := by unfold tameF; rw [if_pos (Or.inl k1)]; exact HMFE.out.symm
            have htt : tameT ⟨f, t, p⟩ n = mf + 1 + mt := by unfold tameT; rw [if_pos (Or.inl k1), ← HMFE.out, ← HMTE.out]
            have HFT := Lib.hid hft
            have HTT := Lib.hid htt
            clear hft htt
            by_cases k5 : p < 0
            · have hp0 := modV_bd (x := p) (n := 1000001) (by omega) (by omega)
              have hpp : tameP ⟨f, t, p⟩ = modV p 1000001 := by unfold tameP; rw [if_pos (Or.inl k5)]
              have HPP := Lib.hid hpp
              have HMP := Lib.hid (fun w => mod_c p 1000001 w (by omega) (by omega))
              clear hp0 hpp
              have z02 : W2.cell? ⟨wr.heap.size, 0, none⟩ = some (.int .i64 (mf)) := by simp [World.cell?, HG2.out]
              have z12 : W2.cell? ⟨wr.heap.size, 1, none⟩ = some (.int .i64 (mf + 1 + mt)) := by simp [World.cell?, HG2.out]
              have z22 : W2.cell? ⟨wr.heap.size, 2, none⟩ = some (.int .i64 (p)) := by simp [World.cell?, HG2.out]
              have zf2 : ∀ k, W2.frozen? ⟨wr.heap.size, k, none⟩ = false := fun k => by simp [World.frozen?, HG2.out]
              go_wp2_with fail
              refine (HMP.out _).mono ?_
              rintro e w5 ⟨rfl, n5, rfl⟩
              go_upto_region 11 with fail
              obtain ⟨W3, hW3⟩ : ∃ W3, W3 = (W2.drewN n5).setCell ⟨wr.heap.size, 2, none⟩ (.int .i64 (modV p 1000001)) := ⟨_, rfl⟩
              rw [← hW3]
              have HG3 : Hid (W3.heap[wr.heap.size]? = some (.cells #[Value.int .i64 (mf), Value.int .i64 (mf + 1 + mt), Value.int .i64 (modV p 1000001)] 47 (0, 0))) := Lib.hid (by rw [hW3]; have := HG2.out; simp [World.setCell, Array.getElem?_modify, this])
              have HB3 : Hid (Below wr.heap.size wr W3) := Lib.hid (by rw [hW3]; exact (HB2.out.trans ((pw_below_drewN (Below.refl _ _) n5).mono (by show wr.heap.size ≤ W2.heap.size; omega))).setCell (p := ⟨wr.heap.size, 2, none⟩) (Nat.le_refl _) _)
              clear z02 z12 z22 zf2
              clear hW3
              have z03 : W3.cell? ⟨wr.heap.size, 0, none⟩ = some (.int .i64 (mf)) := by simp [World.cell?, HG3.out]
              have z13 : W3.cell? ⟨wr.heap.size, 1, none⟩ = some (.int .i64 (mf + 1 + mt)) := by simp [World.cell?, HG3.out]
              have z23 : W3.cell? ⟨wr.heap.size, 2, none⟩ = some (.int .i64 (modV p 1000001)) := by simp [World.cell?, HG3.out]
              have zf3 : ∀ k, W3.frozen? ⟨wr.heap.size, k, none⟩ = false := fun k => by simp [World.frozen?, HG3.out]
              have hy : tame1 (n : Int) ⟨f, t, p⟩ = ⟨mf, mf + 1 + mt, modV p 1000001⟩ := by
                show (⟨tameF ⟨f, t, p⟩ n, tameT ⟨f, t, p⟩ n, tameP ⟨f, t, p⟩⟩ : S47) = _
                rw [HFT.out, HTT.out, HPP.out]
              have HY := Lib.hid hy
              have hsW := HB3.out.size
              have hOW := Lib.hid (Kd.R_below HO.out HB3.out)
              clear hy
              try clear hs0
              try clear hs1
              try clear hs2
              go_wp2_with (at_builtin; refine Kd.R_append k47 (w0 := w) w.heap.size rfl (.tmp 70) (.tmp 72) 22 47 (.agg #[(.int .i64 0), (.int .i64 0), (.int .i64 0)]) 24 rfl Try.underlying22 info47 rfl (by decide) (by omega) u7 (M.take q) (⟨mf, mf + 1 + mt, modV p 1000001⟩ : S47) [.int .i64 (mf), .int .i64 (mf + 1 + mt), .int .i64 (modV p 1000001)] (fun _ => True) (fun _ => False) rfl rfl ?aP (fun _ hk => hk.elim) (fun _ _ => trivial) ?aO ?aB ?aS ?aL ?_)
              case aP => exact k47_mkM _ _ _ (⟨mf, mf + 1 + mt, modV p 1000001⟩ : S47)
              case aO => exact hOW.out
              case aB => exact hB.trans (HB3.out.mono (by omega))
              case aS => omega
              case aL => have h9 := HLEN.out; (try simp only [List.length_take] at h9 ⊢); omega
              intro v1 w9 ho hb hg hat
              have HO9 := Lib.hid ho
              clear ho hg hat
              clear z03 z13 z23 zf3
              go_wp2_with fail
              go_roundw
              case rel => exact ⟨q + 1, by go_num, by omega, by omega, (by rw [HNX.out, HY.out]; exact HO9.out), hb⟩
              case measure => simp [intOf]; omega
            · by_cases k6 : 1000000 < p
              · have hp0 := modV_bd (x := p) (n := 1000001) (by omega) (by omega)
                have hpp : tameP ⟨f, t, p⟩ = modV p 1000001 := by unfold tameP; rw [if_pos (Or.inr k6)]
                have HPP := Lib.hid hpp
                have HMP := Lib.hid (fun w => mod_c p 1000001 w (by omega) (by omega))
                clear hp0 hpp
                have z02 : W2.cell? ⟨wr.heap.size, 0, none⟩ = some (.int .i64 (mf)) := by simp [World.cell?, HG2.out]
                have z12 : W2.cell? ⟨wr.heap.size, 1, none⟩ = some (.int .i64 (mf + 1 + mt)) := by simp [World.cell?, HG2.out]
                have z22 : W2.cell? ⟨wr.heap.size, 2, none⟩ = some (.int .i64 (p)) := by simp [World.cell?, HG2.out]
                have zf2 : ∀ k, W2.frozen? ⟨wr.heap.size, k, none⟩ = false := fun k => by simp [World.frozen?, HG2.out]
                go_wp2_with fail
                refine (HMP.out _).mono ?_
                rintro e w5 ⟨rfl, n5, rfl⟩
                go_upto_region 11 with fail
                obtain ⟨W3, hW3⟩ : ∃ W3, W3 = (W2.drewN n5).setCell ⟨wr.heap.size, 2, none⟩ (.int .i64 (modV p 1000001)) := ⟨_, rfl⟩
                rw [← hW3]
                have HG3 : Hid (W3.heap[wr.heap.size]? = some (.cells #[Value.int .i64 (mf), Value.int .i64 (mf + 1 + mt), Value.int .i64 (modV p 1000001)] 47 (0, 0))) := Lib.hid (by rw [hW3]; have := HG2.out; simp [World.setCell, Array.getElem?_modify, this])
                have HB3 : Hid (Below wr.heap.size wr W3) := Lib.hid (by rw [hW3]; exact (HB2.out.trans ((pw_below_drewN (Below.refl _ _) n5).mono (by show wr.heap.size ≤ W2.heap.size; omega))).setCell (p := ⟨wr.heap.size, 2, none⟩) (Nat.le_refl _) _)
                clear z02 z12 z22 zf2
                clear hW3
                have z03 : W3.cell? ⟨wr.heap.size, 0, none⟩ = some (.int .i64 (mf)) := by simp [World.cell?, HG3.out]
                have z13 : W3.cell? ⟨wr.heap.size, 1, none⟩ = some (.int .i64 (mf + 1 + mt)) := by simp [World.cell?, HG3.out]
                have z23 : W3.cell? ⟨wr.heap.size, 2, none⟩ = some (.int .i64 (modV p 1000001)) := by simp [World.cell?, HG3.out]
                have zf3 : ∀ k, W3.frozen? ⟨wr.heap.size, k, none⟩ = false := fun k => by simp [World.frozen?, HG3.out]
                have hy : tame1 (n : Int) ⟨f, t, p⟩ = ⟨mf, mf + 1 + mt, modV p 1000001⟩ := by
                  show (⟨tameF ⟨f, t, p⟩ n, tameT ⟨f, t, p⟩ n, tameP ⟨f, t, p⟩⟩ : S47) = _
                  rw [HFT.out, HTT.out, HPP.out]
                have HY := Lib.hid hy
                have hsW := HB3.out.size
                have hOW := Lib.hid (Kd.R_below HO.out HB3.out)
                clear hy
                try clear hs0
                try clear hs1
                try clear hs2
                go_wp2_with (at_builtin; refine Kd.R_append k47 (w0 := w) w.heap.size rfl (.tmp 70) (.tmp 72) 22 47 (.agg #[(.int .i64 0), (.int .i64 0), (.int .i64 0)]) 24 rfl Try.underlying22 info47 rfl (by decide) (by omega) u7 (M.take q) (⟨mf, mf + 1 + mt, modV p 1000001⟩ : S47) [.int .i64 (mf), .int .i64 (mf + 1 + mt), .int .i64 (modV p 1000001)] (fun _ => True) (fun _ => False) rfl rfl ?aP (fun _ hk => hk.elim) (fun _ _ => trivial) ?aO ?aB ?aS ?aL ?_)
                case aP => exact k47_mkM _ _ _ (⟨mf, mf + 1 + mt, modV p 1000001⟩ : S47)
                case aO => exact hOW.out
                case aB => exact hB.trans (HB3.out.mono (by omega))
                case aS => omega
                case aL => have h9 := HLEN.out; (try simp only [List.length_take] at h9 ⊢); omega
                intro v1 w9 ho hb hg hat
                have HO9 := Lib.hid ho
                clear ho hg hat
                clear z03 z13 z23 zf3
                go_wp2_with fail
                go_roundw
                case rel => exact ⟨q + 1, by go_num, by omega, by omega, (by rw [HNX.out, HY.out]; exact HO9.out), hb⟩
                case measure => simp [intOf]; omega
              · have hpp : tameP ⟨f, t, p⟩ = p := by unfold tameP; exact if_neg (show ¬ (p < 0 ∨ 1000000 < p) by omega)
                have HPP := Lib.hid hpp
                clear hpp
                have z02 : W2.cell? ⟨wr.heap.size, 0, none⟩ = some (.int .i64 (mf)) := by simp [World.cell?, HG2.out]
                have z12 : W2.cell? ⟨wr.heap.size, 1, none⟩ = some (.int .i64 (mf + 1 + mt)) := by simp [World.cell?, HG2.out]
                have z22 : W2.cell? ⟨wr.heap.size, 2, none⟩ = some (.int .i64 (p)) := by simp [World.cell?, HG2.out]
                have zf2 : ∀ k, W2.frozen? ⟨wr.heap.size, k, none⟩ = false := fun k => by simp [World.frozen?, HG2.out]
                go_upto_region 11 with fail
                clear z02 z12 z22 zf2
                have z02 : W2.cell? ⟨wr.heap.size, 0, none⟩ = some (.int .i64 (mf)) := by simp [World.cell?, HG2.out]
                have z12 : W2.cell? ⟨wr.heap.size, 1, none⟩ = some (.int .i64 (mf + 1 + mt)) := by simp [World.cell?, HG2.out]
                have z22 : W2.cell? ⟨wr.heap.size, 2, none⟩ = some (.int .i64 (p)) := by simp [World.cell?, HG2.out]
                have zf2 : ∀ k, W2.frozen? ⟨wr.heap.size, k, none⟩ = false := fun k => by simp [World.frozen?, HG2.out]
                have hy : tame1 (n : Int) ⟨f, t, p⟩ = ⟨mf, mf + 1 + mt, p⟩ := by
                  show (⟨tameF ⟨f, t, p⟩ n, tameT ⟨f, t, p⟩ n, tameP ⟨f, t, p⟩⟩ : S47) = _
                  rw [HFT.out, HTT.out, HPP.out]
                have HY := Lib.hid hy
                have hsW := HB2.out.size
                have hOW := Lib.hid (Kd.R_below HO.out HB2.out)
                clear hy
                try clear hs0
                try clear hs1
                try clear hs2
                go_wp2_with (at_builtin; refine Kd.R_append k47 (w0 := w) w.heap.size rfl (.tmp 70) (.tmp 72) 22 47 (.agg #[(.int .i64 0), (.int .i64 0), (.int .i64 0)]) 24 rfl Try.underlying22 info47 rfl (by decide) (by omega) u7 (M.take q) (⟨mf, mf + 1 + mt, p⟩ : S47) [.int .i64 (mf), .int .i64 (mf + 1 + mt), .int .i64 (p)] (fun _ => True) (fun _ => False) rfl rfl ?aP (fun _ hk => hk.elim) (fun _ _ => trivial) ?aO ?aB ?aS ?aL ?_)
                case aP => exact k47_mkM _ _ _ (⟨mf, mf + 1 + mt, p⟩ : S47)
                case aO => exact hOW.out
                case aB => exact hB.trans (HB2.out.mono (by omega))
                case aS => omega
                case aL => have h9 := HLEN.out; (try simp only [List.length_take] at h9 ⊢); omega
                intro v1 w9 ho hb hg hat
                have HO9 := Lib.hid ho
                clear ho hg hat
                clear z02 z12 z22 zf2
                go_wp2_with fail
                go_roundw
                case rel => exact ⟨q + 1, by go_num, by omega, by omega, (by rw [HNX.out, HY.out]; exact HO9.out), hb⟩
                case measure => simp [intOf]; omega
        · by_cases k2 : (n : Int) < t
          · have ha := modV_bd (x := f) (n := n) (by omega) (by omega)
            have ha1 := ha.1
            have ha2 := ha.2.1
            have hb0 := modV_bd (x := t) (n := (n : Int) - modV f n) (by omega) (by omega)
            have hb1 := hb0.1
            have hb2 := hb0.2.1
            have HMF := Lib.hid (fun w => mod_c f n w (by omega) (by omega))
            have HMT := Lib.hid (fun w => mod_c t ((n : Int) - modV f n) w (by omega) (by omega))
            obtain ⟨mf, hmf⟩ : ∃ mf, mf = modV f n := ⟨_, rfl⟩
            rw [← hmf] at HMF HMT ha1 ha2 hb0 hb1 hb2
            obtain ⟨mt, hmt⟩ : ∃ mt, mt = modV t ((n : Int) - mf) := ⟨_, rfl⟩
            rw [← hmt] at HMT hb1 hb2
            have HMFE := Lib.hid hmf
            have HMTE := Lib.hid hmt
            clear ha hb0 hmf hmt
            go_wp2_with fail
            rw [← HW0.out]
            refine (HMF.out _).mono ?_
            rintro e w3 ⟨rfl, n3, rfl⟩
            have z00 : W0.cell? ⟨wr.heap.size, 0, none⟩ = some (.int .i64 (f)) := by simp [World.cell?, HG0.out]
            have z10 : W0.cell? ⟨wr.heap.size, 1, none⟩ = some (.int .i64 (t)) := by simp [World.cell?, HG0.out]
            have z20 : W0.cell? ⟨wr.heap.size, 2, none⟩ = some (.int .i64 (p)) := by simp [World.cell?, HG0.out]
            have zf0 : ∀ k, W0.frozen? ⟨wr.heap.size, k, none⟩ = false := fun k => by simp [World.frozen?, HG0.out]
            obtain ⟨W1, hW1⟩ : ∃ W1, W1 = (W0.drewN n3).setCell ⟨wr.heap.size, 0, none⟩ (.int .i64 mf) := ⟨_, rfl⟩
            have HG1 : Hid (W1.heap[wr.heap.size]? = some (.cells #[Value.int .i64 mf, Value.int .i64 t, Value.int .i64 p] 47 (0, 0))) := Lib.hid (by rw [hW1]; have := HG0.out; simp [World.setCell, Array.getElem?_modify, World.drewN, this])
            have HB1 : Hid (Below wr.heap.size wr W1) := Lib.hid (by rw [hW1]; exact (HBW0.out.trans ((pw_below_drewN (Below.refl _ _) n3).mono (by show wr.heap.size ≤ W0.heap.size; omega))).setCell (p := ⟨wr.heap.size, 0, none⟩) (Nat.le_refl _) _)
            have hs1 : W1.heap.size = wr.heap.size + 1 := by rw [hW1]; simp [World.setCell, World.drewN, hs0]
            have HW1 := Lib.hid hW1
            clear hW1
            go_wp2_with fail
            rw [← HW1.out]
            clear z00 z10 z20 zf0
            have CE : Hid (∀ w', R.Keeps [] W1 w' → w'.cell? ⟨wr.heap.size, 0, none⟩ = some (.int .i64 mf) ∧ w'.cell? ⟨wr.heap.size, 1, none⟩ = some (.int .i64 t)) := Lib.hid (fun w' h =>
              ⟨h.cell (a := ⟨wr.heap.size, 0, none⟩) (by simp [World.cell?, HG1.out]) (by simp), h.cell (a := ⟨wr.heap.size, 1, none⟩) (by simp [World.cell?, HG1.out]) (by simp)⟩)
            have hk1 : mf ≤ 1000 := by omega
            have hk2 : mt ≤ 1000 := by omega
            have hk3 : (n : Int) ≤ 1000 := by omega
            have hi3 : -4611686018427387904 ≤ mf + 1 + mt ∧ mf + 1 + mt ≤ 4611686018427387904 := by omega
            have hi2 : -4611686018427387904 ≤ (n : Int) - mf ∧ (n : Int) - mf ≤ 4611686018427387904 := by omega
            have hi1 : -4611686018427387904 ≤ mf + 1 ∧ mf + 1 ≤ 4611686018427387904 := by omega
            have e1 : IntKind.i64.wrap (mf + 1) = mf + 1 := by rw [i64_w]; exact wrapI hi1
            have e2 : IntKind.i64.wrap ((n : Int) - mf) = (n : Int) - mf := by rw [i64_w]; exact wrapI hi2
            have e3 : IntKind.i64.wrap (mf + 1 + mt) = mf + 1 + mt := by rw [i64_w]; exact wrapI hi3
            clear hi1 hi2 hi3
            apply R.wp_region_text [0, 1, 2, 3, 4, 5, 6, 7, 8] [9, 10, 11, 12] 12 (R.Keeps [] W1)
            case hm => kernel_rfl
            case hB => kernel_rfl
            case hd => rfl
            case hQ => exact fun _ _ _ _ _ h => h
            case hS => exact (R.Keeps.refl _ _).drew
            case hF =>
              intro w' hS
              obtain ⟨c1, c2⟩ := CE.out w' hS
              have HS := Lib.hid hS
              clear hS
              simp only [R.pickC, List.filterMap_cons, List.getElem?_toArray, List.getElem?_cons_zero, List.getElem?_cons_succ, List.filterMap_nil]
              iterate 9 ((with_reducible refine R.wpStill_plain rfl (fun K hK => ?_)); go_simp; with_reducible refine hK _ ?_; clear hK K)
              exact wpStill_nil rfl
            case hC =>
              simp only [R.chainOf, List.getElem?_toArray, List.getElem?_cons_zero, List.getElem?_cons_succ, Nat.reduceBNe, Bool.and_true, Bool.and_false, Bool.false_and]
              refine R.wpSeq_same (fun K hK => ?_)
              go_simp
              refine (HMT.out _).mono ?_
              rintro e w4 ⟨rfl, n4, rfl⟩
              have hk4 : R.Keeps [] W1 (W1.drewN (1 + n4)) := R.Keeps.of_below [] (pw_below_drewN (Below.refl _ _) (1 + n4))
              refine hK _ _ (((R.Keeps.refl _ _).drew).below (pw_below_drewN (Below.refl _ _) n4)) ?_
              clear hK K
              refine R.wpSeq_same (fun K hK => ?_)
              go_simp
              with_reducible refine hK _ _ hk4 ?_
              clear hK K
              refine R.wpSeq_same (fun K hK => ?_)
              go_simp
              with_reducible refine hK _ _ hk4 ?_
              clear hK K
              clear e1 e2 e3
              refine R.wpSeq_tail _ rfl ?_
              simp only [List.map_cons, List.map_nil]
              have HG4 : Hid ((W1.drewN (1 + n4)).heap[wr.heap.size]? = some (.cells #[Value.int .i64 mf, Value.int .i64 t, Value.int .i64 p] 47 (0, 0))) := Lib.hid (by have := HG1.out; simpa [World.drewN, World.drew] using this)
              have HK4 := Lib.hid hk4
              clear hk4
              have z04 : (W1.drewN (1 + n4)).cell? ⟨wr.heap.size, 0, none⟩ = some (.int .i64 (mf)) := by simp [World.cell?, HG1.out]
              have z14 : (W1.drewN (1 + n4)).cell? ⟨wr.heap.size, 1, none⟩ = some (.int .i64 (t)) := by simp [World.cell?, HG1.out]
              have z24 : (W1.drewN (1 + n4)).cell? ⟨wr.heap.size, 2, none⟩ = some (.int .i64 (p)) := by simp [World.cell?, HG1.out]
              have zf4 : ∀ k, (W1.drewN (1 + n4)).frozen? ⟨wr.heap.size, k, none⟩ = false := fun k => by simp [World.frozen?, HG1.out]
              obtain ⟨W2, hW2⟩ : ∃ W2, W2 = (W1.drewN (1 + n4)).setCell ⟨wr.heap.size, 1, none⟩ (.int .i64 (mf + 1 + mt)) := ⟨_, rfl⟩
              have HG2 : Hid (W2.heap[wr.heap.size]? = some (.cells #[Value.int .i64 mf, Value.int .i64 (mf + 1 + mt), Value.int .i64 p] 47 (0, 0))) := Lib.hid (by rw [hW2]; have := HG1.out; simp [World.setCell, Array.getElem?_modify, this])
              have HB2 : Hid (Below wr.heap.size wr W2) := Lib.hid (by rw [hW2]; exact (HB1.out.trans (HK4.out.to_below (by omega) (fun k hk => by simp at hk))).setCell (p := ⟨wr.heap.size, 1, none⟩) (Nat.le_refl _) _)
              have hs2 : W2.heap.size = wr.heap.size + 1 := by rw [hW2]; simpa [World.setCell, World.drewN, World.drew] using hs1
              have HW2 := Lib.hid hW2
              clear hW2
              go_upto_region 9 with fail
              rw [← HW2.out]
              clear z04 z14 z24 zf4
              have hft : tameF ⟨f, t, p⟩ n = mf := by unfold tameF; rw [if_pos (Or.inr (Or.inl k2))]; exact HMFE.out.symm
              have htt : tameT ⟨f, t, p⟩ n = mf + 1 + mt := by unfold tameT; rw [if_pos (Or.inr (Or.inl k2)), ← HMFE.out, ← HMTE.out]
              have HFT := Lib.hid hft
              have HTT := Lib.hid htt
              clear hft htt
              by_cases k5 : p < 0
              · have hp0 := modV_bd (x := p) (n := 1000001) (by omega) (by omega)
                have hpp : tameP ⟨f, t, p⟩ = modV p 1000001 := by unfold tameP; rw [if_pos (Or.inl k5)]
                have HPP := Lib.hid hpp
                have HMP := Lib.hid (fun w => mod_c p 1000001 w (by omega) (by omega))
                clear hp0 hpp
                have z02 : W2.cell? ⟨wr.heap.size, 0, none⟩ = some (.int .i64 (mf)) := by simp [World.cell?, HG2.out]
                have z12 : W2.cell? ⟨wr.heap.size, 1, none⟩ = some (.int .i64 (mf + 1 + mt)) := by simp [World.cell?, HG2.out]
                have z22 : W2.cell? ⟨wr.heap.size, 2, none⟩ = some (.int .i64 (p)) := by simp [World.cell?, HG2.out]
                have zf2 : ∀ k, W2.frozen? ⟨wr.heap.size, k, none⟩ = false := fun k => by simp [World.frozen?, HG2.out]
                go_wp2_with fail
                refine (HMP.out _).mono ?_
                rintro e w5 ⟨rfl, n5, rfl⟩
                go_upto_region 11 with fail
                obtain ⟨W3, hW3⟩ : ∃ W3, W3 = (W2.drewN n5).setCell ⟨wr.heap.size, 2, none⟩ (.int .i64 (modV p 1000001)) := ⟨_, rfl⟩
                rw [← hW3]
                have HG3 : Hid (W3.heap[wr.heap.size]? = some (.cells #[Value.int .i64 (mf), Value.int .i64 (mf + 1 + mt), Value.int .i64 (modV p 1000001)] 47 (0, 0))) := Lib.hid (by rw [hW3]; have := HG2.out; simp [World.setCell, Array.getElem?_modify, this])
                have HB3 : Hid (Below wr.heap.size wr W3) := Lib.hid (by rw [hW3]; exact (HB2.out.trans ((pw_below_drewN (Below.refl _ _) n5).mono (by show wr.heap.size ≤ W2.heap.size; omega))).setCell (p := ⟨wr.heap.size, 2, none⟩) (Nat.le_refl _) _)
                clear z02 z12 z22 zf2
                clear hW3
                have z03 : W3.cell? ⟨wr.heap.size, 0, none⟩ = some (.int .i64 (mf)) := by simp [World.cell?, HG3.out]
                have z13 : W3.cell? ⟨wr.heap.size, 1, none⟩ = some (.int .i64 (mf + 1 + mt)) := by simp [World.cell?, HG3.out]
                have z23 : W3.cell? ⟨wr.heap.size, 2, none⟩ = some (.int .i64 (modV p 1000001)) := by simp [World.cell?, HG3.out]
                have zf3 : ∀ k, W3.frozen? ⟨wr.heap.size, k, none⟩ = false := fun k => by simp [World.frozen?, HG3.out]
                have hy : tame1 (n : Int) ⟨f, t, p⟩ = ⟨mf, mf + 1 + mt, modV p 1000001⟩ := by
                  show (⟨tameF ⟨f, t, p⟩ n, tameT ⟨f, t, p⟩ n, tameP ⟨f, t, p⟩⟩ : S47) = _
                  rw [HFT.out, HTT.out, HPP.out]
                have HY := Lib.hid hy
                have hsW := HB3.out.size
                have hOW := Lib.hid (Kd.R_below HO.out HB3.out)
                clear hy
                try clear hs0
                try clear hs1
                try clear hs2
                go_wp2_with (at_builtin; refine Kd.R_append k47 (w0 := w) w.heap.size rfl (.tmp 70) (.tmp 72) 22 47 (.agg #[(.int .i64 0), (.int .i64 0), (.int .i64 0)]) 24 rfl Try.underlying22 info47 rfl (by decide) (by omega) u7 (M.take q) (⟨mf, mf + 1 + mt, modV p 1000001⟩ : S47) [.int .i64 (mf), .int .i64 (mf + 1 + mt), .int .i64 (modV p 1000001)] (fun _ => True) (fun _ => False) rfl rfl ?aP (fun _ hk => hk.elim) (fun _ _ => trivial) ?aO ?aB ?aS ?aL ?_)
                case aP => exact k47_mkM _ _ _ (⟨mf, mf + 1 + mt, modV p 1000001⟩ : S47)
                case aO => exact hOW.out
                case aB => exact hB.trans (HB3.out.mono (by omega))
                case aS => omega
                case aL => have h9 := HLEN.out; (try simp only [List.length_take] at h9 ⊢); omega
                intro v1 w9 ho hb hg hat
                have HO9 := Lib.hid ho
                clear ho hg hat
                clear z03 z13 z23 zf3
                go_wp2_with fail
                go_roundw
                case rel => exact ⟨q + 1, by go_num, by omega, by omega, (by rw [HNX.out, HY.out]; exact HO9.out), hb⟩
                case measure => simp [intOf]; omega
              · by_cases k6 : 1000000 < p
                · have hp0 := modV_bd (x := p) (n := 1000001) (by omega) (by omega)
                  have hpp : tameP ⟨f, t, p⟩ = modV p 1000001 := by unfold tameP; rw [if_pos (Or.inr k6)]
                  have HPP := Lib.hid hpp
                  have HMP := Lib.hid (fun w => mod_c p 1000001 w (by omega) (by omega))
                  clear hp0 hpp
                  have z02 : W2.cell? ⟨wr.heap.size, 0, none⟩ = some (.int .i64 (mf)) := by simp [World.cell?, HG2.out]
                  have z12 : W2.cell? ⟨wr.heap.size, 1, none⟩ = some (.int .i64 (mf + 1 + mt)) := by simp [World.cell?, HG2.out]
                  have z22 : W2.cell? ⟨wr.heap.size, 2, none⟩ = some (.int .i64 (p)) := by simp [World.cell?, HG2.out]
                  have zf2 : ∀ k, W2.frozen? ⟨wr.heap.size, k, none⟩ = false := fun k => by simp [World.frozen?, HG2.out]
                  go_wp2_with fail
                  refine (HMP.out _).mono ?_
                  rintro e w5 ⟨rfl, n5, rfl⟩
                  go_upto_region 11 with fail
                  obtain ⟨W3, hW3⟩ : ∃ W3, W3 = (W2.drewN n5).setCell ⟨wr.heap.size, 2, none⟩ (.int .i64 (modV p 1000001)) := ⟨_, rfl⟩
                  rw [← hW3]
                  have HG3 : Hid (W3.heap[wr.heap.size]? = some (.cells #[Value.int .i64 (mf), Value.int .i64 (mf + 1 + mt), Value.int .i64 (modV p 1000001)] 47 (0, 0))) := Lib.hid (by rw [hW3]; have := HG2.out; simp [World.setCell, Array.getElem?_modify, this])
                  have HB3 : Hid (Below wr.heap.size wr W3) := Lib.hid (by rw [hW3]; exact (HB2.out.trans ((pw_below_drewN (Below.refl _ _) n5).mono (by show wr.heap.size ≤ W2.heap.size; omega))).setCell (p := ⟨wr.heap.size, 2, none⟩) (Nat.le_refl _) _)
                  clear z02 z12 z22 zf2
                  clear hW3
                  have z03 : W3.cell? ⟨wr.heap.size, 0, none⟩ = some (.int .i64 (mf)) := by simp [World.cell?, HG3.out]
                  have z13 : W3.cell? ⟨wr.heap.size, 1, none⟩ = some (.int .i64 (mf + 1 + mt)) := by simp [World.cell?, HG3.out]
                  have z23 : W3.cell? ⟨wr.heap.size, 2, none⟩ = some (.int .i64 (modV p 1000001)) := by simp [World.cell?, HG3.out]
                  have zf3 : ∀ k, W3.frozen? ⟨wr.heap.size, k, none⟩ = false := fun k => by simp [World.frozen?, HG3.out]
                  have hy : tame1 (n : Int) ⟨f, t, p⟩ = ⟨mf, mf + 1 + mt, modV p 1000001⟩ := by
                    show (⟨tameF ⟨f, t, p⟩ n, tameT ⟨f, t, p⟩ n, tameP ⟨f, t, p⟩⟩ : S47) = _
                    rw [HFT.out, HTT.out, HPP.out]
                  have HY := Lib.hid hy
                  have hsW := HB3.out.size
                  have hOW := Lib.hid (Kd.R_below HO.out HB3.out)
                  clear hy
                  try clear hs0
                  try clear hs1
                  try clear hs2
                  go_wp2_with (at_builtin; refine Kd.R_append k47 (w0 := w) w.heap.size rfl (.tmp 70) (.tmp 72) 22 47 (.agg #[(.int .i64 0), (.int .i64 0), (.int .i64 0)]) 24 rfl Try.underlying22 info47 rfl (by decide) (by omega) u7 (M.take q) (⟨mf, mf + 1 + mt, modV p 1000001⟩ : S47) [.int .i64 (mf), .int .i64 (mf + 1 + mt), .int .i64 (modV p 1000001)] (fun _ => True) (fun _ => False) rfl rfl ?aP (fun _ hk => hk.elim) (fun _ _ => trivial) ?aO ?aB ?aS ?aL ?_)
                  case aP => exact k47_mkM _ _ _ (⟨mf, mf + 1 + mt, modV p 1000001⟩ : S47)
                  case aO => exact hOW.out
                  case aB => exact hB.trans (HB3.out.mono (by omega))
                  case aS => omega
                  case aL => have h9 := HLEN.out; (try simp only [List.length_take] at h9 ⊢); omega
                  intro v1 w9 ho hb hg hat
                  have HO9 := Lib.hid ho
                  clear ho hg hat
                  clear z03 z13 z23 zf3
                  go_wp2_with fail
                  go_roundw
                  case rel => exact ⟨q + 1, by go_num, by omega, by omega, (by rw [HNX.out, HY.out]; exact HO9.out), hb⟩
                  case measure => simp [intOf]; omega
                · have hpp : tameP ⟨f, t, p⟩ = p := by unfold tameP; exact if_neg (show ¬ (p < 0 ∨ 1000000 < p) by omega)
                  have HPP := Lib.hid hpp
                  clear hpp
                  have z02 : W2.cell? ⟨wr.heap.size, 0, none⟩ = some (.int .i64 (mf)) := by simp [World.cell?, HG2.out]
                  have z12 : W2.cell? ⟨wr.heap.size, 1, none⟩ = some (.int .i64 (mf + 1 + mt)) := by simp [World.cell?, HG2.out]
                  have z22 : W2.cell? ⟨wr.heap.size, 2, none⟩ = some (.int .i64 (p)) := by simp [World.cell?, HG2.out]
                  have zf2 : ∀ k, W2.frozen? ⟨wr.heap.size, k, none⟩ = false := fun k => by simp [World.frozen?, HG2.out]
                  go_upto_region 11 with fail
                  clear z02 z12 z22 zf2
                  have z02 : W2.cell? ⟨wr.heap.size, 0, none⟩ = some (.int .i64 (mf)) := by simp [World.cell?, HG2.out]
                  have z12 : W2.cell? ⟨wr.heap.size, 1, none⟩ = some (.int .i64 (mf + 1 + mt)) := by simp [World.cell?, HG2.out]
                  have z22 : W2.cell? ⟨wr.heap.size, 2, none⟩ = some (.int .i64 (p)) := by simp [World.cell?, HG2.out]
                  have zf2 : ∀ k, W2.frozen? ⟨wr.heap.size, k, none⟩ = false := fun k => by simp [World.frozen?, HG2.out]
                  have hy : tame1 (n : Int) ⟨f, t, p⟩ = ⟨mf, mf + 1 + mt, p⟩ := by
                    show (⟨tameF ⟨f, t, p⟩ n, tameT ⟨f, t, p⟩ n, tameP ⟨f, t, p⟩⟩ : S47) = _
                    rw [HFT.out, HTT.out, HPP.out]
                  have HY := Lib.hid hy
                  have hsW := HB2.out.size
                  have hOW := Lib.hid (Kd.R_below HO.out HB2.out)
                  clear hy
                  try clear hs0
                  try clear hs1
                  try clear hs2
                  go_wp2_with (at_builtin; refine Kd.R_append k47 (w0 := w) w.heap.size rfl (.tmp 70) (.tmp 72) 22 47 (.agg #[(.int .i64 0), (.int .i64 0), (.int .i64 0)]) 24 rfl Try.underlying22 info47 rfl (by decide) (by omega) u7 (M.take q) (⟨mf, mf + 1 + mt, p⟩ : S47) [.int .i64 (mf), .int .i64 (mf + 1 + mt), .int .i64 (p)] (fun _ => True) (fun _ => False) rfl rfl ?aP (fun _ hk => hk.elim) (fun _ _ => trivial) ?aO ?aB ?aS ?aL ?_)
                  case aP => exact k47_mkM _ _ _ (⟨mf, mf + 1 + mt, p⟩ : S47)
                  case aO => exact hOW.out
                  case aB => exact hB.trans (HB2.out.mono (by omega))
                  case aS => omega
                  case aL => have h9 := HLEN.out; (try simp only [List.length_take] at h9 ⊢); omega
                  intro v1 w9 ho hb hg hat
                  have HO9 := Lib.hid ho
                  clear ho hg hat
                  clear z02 z12 z22 zf2
                  go_wp2_with fail
                  go_roundw
                  case rel => exact ⟨q + 1, by go_num, by omega, by omega, (by rw [HNX.out, HY.out]; exact HO9.out), hb⟩
                  case measure => simp [intOf]; omega
          · by_cases k3 : t ≤ f
            · have ha := modV_bd (x := f) (n := n) (by omega) (by omega)
              have ha1 := ha.1
              have ha2 := ha.2.1
              have hb0 := modV_bd (x := t) (n := (n : Int) - modV f n) (by omega) (by omega)
              have hb1 := hb0.1
              have hb2 := hb0.2.1
              have HMF := Lib.hid (fun w => mod_c f n w (by omega) (by omega))
              have HMT := Lib.hid (fun w => mod_c t ((n : Int) - modV f n) w (by omega) (by omega))
              obtain ⟨mf, hmf⟩ : ∃ mf, mf = modV f n := ⟨_, rfl⟩
              rw [← hmf] at HMF HMT ha1 ha2 hb0 hb1 hb2
              obtain ⟨mt, hmt⟩ : ∃ mt, mt = modV t ((n : Int) - mf) := ⟨_, rfl⟩
              rw [← hmt] at HMT hb1 hb2
              have HMFE := Lib.hid hmf
              have HMTE := Lib.hid hmt
              clear ha hb0 hmf hmt
              go_wp2_with fail
              rw [← HW0.out]
              refine (HMF.out _).mono ?_
              rintro e w3 ⟨rfl, n3, rfl⟩
              have z00 : W0.cell? ⟨wr.heap.size, 0, none⟩ = some (.int .i64 (f)) := by simp [World.cell?, HG0.out]
              have z10 : W0.cell? ⟨wr.heap.size, 1, none⟩ = some (.int .i64 (t)) := by simp [World.cell?, HG0.out]
              have z20 : W0.cell? ⟨wr.heap.size, 2, none⟩ = some (.int .i64 (p)) := by simp [World.cell?, HG0.out]
              have zf0 : ∀ k, W0.frozen? ⟨wr.heap.size, k, none⟩ = false := fun k => by simp [World.frozen?, HG0.out]
              obtain ⟨W1, hW1⟩ : ∃ W1, W1 = (W0.drewN n3).setCell ⟨wr.heap.size, 0, none⟩ (.int .i64 mf) := ⟨_, rfl⟩
              have HG1 : Hid (W1.heap[wr.heap.size]? = some (.cells #[Value.int .i64 mf, Value.int .i64 t, Value.int .i64 p] 47 (0, 0))) := Lib.hid (by rw [hW1]; have := HG0.out; simp [World.setCell, Array.getElem?_modify, World.drewN, this])
              have HB1 : Hid (Below wr.heap.size wr W1) := Lib.hid (by rw [hW1]; exact (HBW0.out.trans ((pw_below_drewN (Below.refl _ _) n3).mono (by show wr.heap.size ≤ W0.heap.size; omega))).setCell (p := ⟨wr.heap.size, 0, none⟩) (Nat.le_refl _) _)
              have hs1 : W1.heap.size = wr.heap.size + 1 := by rw [hW1]; simp [World.setCell, World.drewN, hs0]
              have HW1 := Lib.hid hW1
              clear hW1
              go_wp2_with fail
              rw [← HW1.out]
              clear z00 z10 z20 zf0
              have CE : Hid (∀ w', R.Keeps [] W1 w' → w'.cell? ⟨wr.heap.size, 0, none⟩ = some (.int .i64 mf) ∧ w'.cell? ⟨wr.heap.size, 1, none⟩ = some (.int .i64 t)) := Lib.hid (fun w' h =>
                ⟨h.cell (a := ⟨wr.heap.size, 0, none⟩) (by simp [World.cell?, HG1.out]) (by simp), h.cell (a := ⟨wr.heap.size, 1, none⟩) (by simp [World.cell?, HG1.out]) (by simp)⟩)
              have hk1 : mf ≤ 1000 := by omega
              have hk2 : mt ≤ 1000 := by omega
              have hk3 : (n : Int) ≤ 1000 := by omega
              have hi3 : -4611686018427387904 ≤ mf + 1 + mt ∧ mf + 1 + mt ≤ 4611686018427387904 := by omega
              have hi2 : -4611686018427387904 ≤ (n : Int) - mf ∧ (n : Int) - mf ≤ 4611686018427387904 := by omega
              have hi1 : -4611686018427387904 ≤ mf + 1 ∧ mf + 1 ≤ 4611686018427387904 := by omega
              have e1 : IntKind.i64.wrap (mf + 1) = mf + 1 := by rw [i64_w]; exact wrapI hi1
              have e2 : IntKind.i64.wrap ((n : Int) - mf) = (n : Int) - mf := by rw [i64_w]; exact wrapI hi2
              have e3 : IntKind.i64.wrap (mf + 1 + mt) = mf + 1 + mt := by rw [i64_w]; exact wrapI hi3
              clear hi1 hi2 hi3
              apply R.wp_region_text [0, 1, 2, 3, 4, 5, 6, 7, 8] [9, 10, 11, 12] 12 (R.Keeps [] W1)
              case hm => kernel_rfl
              case hB => kernel_rfl
              case hd => rfl
              case hQ => exact fun _ _ _ _ _ h => h
              case hS => exact (R.Keeps.refl _ _).drew
              case hF =>
                intro w' hS
                obtain ⟨c1, c2⟩ := CE.out w' hS
                have HS := Lib.hid hS
                clear hS
                simp only [R.pickC, List.filterMap_cons, List.getElem?_toArray, List.getElem?_cons_zero, List.getElem?_cons_succ, List.filterMap_nil]
                iterate 9 ((with_reducible refine R.wpStill_plain rfl (fun K hK => ?_)); go_simp; with_reducible refine hK _ ?_; clear hK K)
                exact wpStill_nil rfl
              case hC =>
                simp only [R.chainOf, List.getElem?_toArray, List.getElem?_cons_zero, List.getElem?_cons_succ, Nat.reduceBNe, Bool.and_true, Bool.and_false, Bool.false_and]
                refine R.wpSeq_same (fun K hK => ?_)
                go_simp
                refine (HMT.out _).mono ?_
                rintro e w4 ⟨rfl, n4, rfl⟩
                have hk4 : R.Keeps [] W1 (W1.drewN (1 + n4)) := R.Keeps.of_below [] (pw_below_drewN (Below.refl _ _) (1 + n4))
                refine hK _ _ (((R.Keeps.refl _ _).drew).below (pw_below_drewN (Below.refl _ _) n4)) ?_
                clear hK K
                refine R.wpSeq_same (fun K hK => ?_)
                go_simp
                with_reducible refine hK _ _ hk4 ?_
                clear hK K
                refine R.wpSeq_same (fun K hK => ?_)
                go_simp
                with_reducible refine hK _ _ hk4 ?_
                clear hK K
                clear e1 e2 e3
                refine R.wpSeq_tail _ rfl ?_
                simp only [List.map_cons, List.map_nil]
                have HG4 : Hid ((W1.drewN (1 + n4)).heap[wr.heap.size]? = some (.cells #[Value.int .i64 mf, Value.int .i64 t, Value.int .i64 p] 47 (0, 0))) := Lib.hid (by have := HG1.out; simpa [World.drewN, World.drew] using this)
                have HK4 := Lib.hid hk4
                clear hk4
                have z04 : (W1.drewN (1 + n4)).cell? ⟨wr.heap.size, 0, none⟩ = some (.int .i64 (mf)) := by simp [World.cell?, HG1.out]
                have z14 : (W1.drewN (1 + n4)).cell? ⟨wr.heap.size, 1, none⟩ = some (.int .i64 (t)) := by simp [World.cell?, HG1.out]
                have z24 : (W1.drewN (1 + n4)).cell? ⟨wr.heap.size, 2, none⟩ = some (.int .i64 (p)) := by simp [World.cell?, HG1.out]
                have zf4 : ∀ k, (W1.drewN (1 + n4)).frozen? ⟨wr.heap.size, k, none⟩ = false := fun k => by simp [World.frozen?, HG1.out]
                obtain ⟨W2, hW2⟩ : ∃ W2, W2 = (W1.drewN (1 + n4)).setCell ⟨wr.heap.size, 1, none⟩ (.int .i64 (mf + 1 + mt)) := ⟨_, rfl⟩
                have HG2 : Hid (W2.heap[wr.heap.size]? = some (.cells #[Value.int .i64 mf, Value.int .i64 (mf + 1 + mt), Value.int .i64 p] 47 (0, 0))) := Lib.hid (by rw [hW2]; have := HG1.out; simp [World.setCell, Array.getElem?_modify, this])
                have HB2 : Hid (Below wr.heap.size wr W2) := Lib.hid (by rw [hW2]; exact (HB1.out.trans (HK4.out.to_below (by omega) (fun k hk => by simp at hk))).setCell (p := ⟨wr.heap.size, 1, none⟩) (Nat.le_refl _) _)
                have hs2 : W2.heap.size = wr.heap.size + 1 := by rw [hW2]; simpa [World.setCell, World.drewN, World.drew] using hs1
                have HW2 := Lib.hid hW2
                clear hW2
                go_upto_region 9 with fail
                rw [← HW2.out]
                clear z04 z14 z24 zf4
                have hft : tameF ⟨f, t, p⟩ n = mf := by unfold tameF; rw [if_pos (Or.inr (Or.inr k3))]; exact HMFE.out.symm
                have htt : tameT ⟨f, t, p⟩ n = mf + 1 + mt := by unfold tameT; rw [if_pos (Or.inr (Or.inr k3)), ← HMFE.out, ← HMTE.out]
                have HFT := Lib.hid hft
                have HTT := Lib.hid htt
                clear hft htt
                by_cases k5 : p < 0
                · have hp0 := modV_bd (x := p) (n := 1000001) (by omega) (by omega)
                  have hpp : tameP ⟨f, t, p⟩ = modV p 1000001 := by unfold tameP; rw [if_pos (Or.inl k5)]
                  have HPP := Lib.hid hpp
                  have HMP := Lib.hid (fun w => mod_c p 1000001 w (by omega) (by omega))
                  clear hp0 hpp
                  have z02 : W2.cell? ⟨wr.heap.size, 0, none⟩ = some (.int .i64 (mf)) := by simp [World.cell?, HG2.out]
                  have z12 : W2.cell? ⟨wr.heap.size, 1, none⟩ = some (.int .i64 (mf + 1 + mt)) := by simp [World.cell?, HG2.out]
                  have z22 : W2.cell? ⟨wr.heap.size, 2, none⟩ = some (.int .i64 (p)) := by simp [World.cell?, HG2.out]
                  have zf2 : ∀ k, W2.frozen? ⟨wr.heap.size, k, none⟩ = false := fun k => by simp [World.frozen?, HG2.out]
                  go_wp2_with fail
                  refine (HMP.out _).mono ?_
                  rintro e w5 ⟨rfl, n5, rfl⟩
                  go_upto_region 11 with fail
                  obtain ⟨W3, hW3⟩ : ∃ W3, W3 = (W2.drewN n5).setCell ⟨wr.heap.size, 2, none⟩ (.int .i64 (modV p 1000001)) := ⟨_, rfl⟩
                  rw [← hW3]
                  have HG3 : Hid (W3.heap[wr.heap.size]? = some (.cells #[Value.int .i64 (mf), Value.int .i64 (mf + 1 + mt), Value.int .i64 (modV p 1000001)] 47 (0, 0))) := Lib.hid (by rw [hW3]; have := HG2.out; simp [World.setCell, Array.getElem?_modify, this])
                  have HB3 : Hid (Below wr.heap.size wr W3) := Lib.hid (by rw [hW3]; exact (HB2.out.trans ((pw_below_drewN (Below.refl _ _) n5).mono (by show wr.heap.size ≤ W2.heap.size; omega))).setCell (p := ⟨wr.heap.size, 2, none⟩) (Nat.le_refl _) _)
                  clear z02 z12 z22 zf2
                  clear hW3
                  have z03 : W3.cell? ⟨wr.heap.size, 0, none⟩ = some (.int .i64 (mf)) := by simp [World.cell?, HG3.out]
                  have z13 : W3.cell? ⟨wr.heap.size, 1, none⟩ = some (.int .i64 (mf + 1 + mt)) := by simp [World.cell?, HG3.out]
                  have z23 : W3.cell? ⟨wr.heap.size, 2, none⟩ = some (.int .i64 (modV p 1000001)) := by simp [World.cell?, HG3.out]
                  have zf3 : ∀ k, W3.frozen? ⟨wr.heap.size, k, none⟩ = false := fun k => by simp [World.frozen?, HG3.out]
                  have hy : tame1 (n : Int) ⟨f, t, p⟩ = ⟨mf, mf + 1 + mt, modV p 1000001⟩ := by
                    show (⟨tameF ⟨f, t, p⟩ n, tameT ⟨f, t, p⟩ n, tameP ⟨f, t, p⟩⟩ : S47) = _
                    rw [HFT.out, HTT.out, HPP.out]
                  have HY := Lib.hid hy
                  have hsW := HB3.out.size
                  have hOW := Lib.hid (Kd.R_below HO.out HB3.out)
                  clear hy
                  try clear hs0
                  try clear hs1
                  try clear hs2
                  go_wp2_with (at_builtin; refine Kd.R_append k47 (w0 := w) w.heap.size rfl (.tmp 70) (.tmp 72) 22 47 (.agg #[(.int .i64 0), (.int .i64 0), (.int .i64 0)]) 24 rfl Try.underlying22 info47 rfl (by decide) (by omega) u7 (M.take q) (⟨mf, mf + 1 + mt, modV p 1000001⟩ : S47) [.int .i64 (mf), .int .i64 (mf + 1 + mt), .int .i64 (modV p 1000001)] (fun _ => True) (fun _ => False) rfl rfl ?aP (fun _ hk => hk.elim) (fun _ _ => trivial) ?aO ?aB ?aS ?aL ?_)
                  case aP => exact k47_mkM _ _ _ (⟨mf, mf + 1 + mt, modV p 1000001⟩ : S47)
                  case aO => exact hOW.out
                  case aB => exact hB.trans (HB3.out.mono (by omega))
                  case aS => omega
                  case aL => have h9 := HLEN.out; (try simp only [List.length_take] at h9 ⊢); omega
                  intro v1 w9 ho hb hg hat
                  have HO9 := Lib.hid ho
                  clear ho hg hat
                  clear z03 z13 z23 zf3
                  go_wp2_with fail
                  go_roundw
                  case rel => exact ⟨q + 1, by go_num, by omega, by omega, (by rw [HNX.out, HY.out]; exact HO9.out), hb⟩
                  case measure => simp [intOf]; omega
                · by_cases k6 : 1000000 < p
                  · have hp0 := modV_bd (x := p) (n := 1000001) (by omega) (by omega)
                    have hpp : tameP ⟨f, t, p⟩ = modV p 1000001 := by unfold tameP; rw [if_pos (Or.inr k6)]
                    have HPP := Lib.hid hpp
                    have HMP := Lib.hid (fun w => mod_c p 1000001 w (by omega) (by omega))
                    clear hp0 hpp
                    have z02 : W2.cell? ⟨wr.heap.size, 0, none⟩ = some (.int .i64 (mf)) := by simp [World.cell?, HG2.out]
                    have z12 : W2.cell? ⟨wr.heap.size, 1, none⟩ = some (.int .i64 (mf + 1 + mt)) := by simp [World.cell?, HG2.out]
                    have z22 : W2.cell? ⟨wr.heap.size, 2, none⟩ = some (.int .i64 (p)) := by simp [World.cell?, HG2.out]
                    have zf2 : ∀ k, W2.frozen? ⟨wr.heap.size, k, none⟩ = false := fun k => by simp [World.frozen?, HG2.out]
                    go_wp2_with fail
                    refine (HMP.out _).mono ?_
                    rintro e w5 ⟨rfl, n5, rfl⟩
                    go_upto_region 11 with fail
                    obtain ⟨W3, hW3⟩ : ∃ W3, W3 = (W2.drewN n5).setCell ⟨wr.heap.size, 2, none⟩ (.int .i64 (modV p 1000001)) := ⟨_, rfl⟩
                    rw [← hW3]
                    have HG3 : Hid (W3.heap[wr.heap.size]? = some (.cells #[Value.int .i64 (mf), Value.int .i64 (mf + 1 + mt), Value.int .i64 (modV p 1000001)] 47 (0, 0))) := Lib.hid (by rw [hW3]; have := HG2.out; simp [World.setCell, Array.getElem?_modify, this])
                    have HB3 : Hid (Below wr.heap.size wr W3) := Lib.hid (by rw [hW3]; exact (HB2.out.trans ((pw_below_drewN (Below.refl _ _) n5).mono (by show wr.heap.size ≤ W2.heap.size; omega))).setCell (p := ⟨wr.heap.size, 2, none⟩) (Nat.le_refl _) _)
                    clear z02 z12 z22 zf2
                    clear hW3
                    have z03 : W3.cell? ⟨wr.heap.size, 0, none⟩ = some (.int .i64 (mf)) := by simp [World.cell?, HG3.out]
                    have z13 : W3.cell? ⟨wr.heap.size, 1, none⟩ = some (.int .i64 (mf + 1 + mt)) := by simp [World.cell?, HG3.out]
                    have z23 : W3.cell? ⟨wr.heap.size, 2, none⟩ = some (.int .i64 (modV p 1000001)) := by simp [World.cell?, HG3.out]
                    have zf3 : ∀ k, W3.frozen? ⟨wr.heap.size, k, none⟩ = false := fun k => by simp [World.frozen?, HG3.out]
                    have hy : tame1 (n : Int) ⟨f, t, p⟩ = ⟨mf, mf + 1 + mt, modV p 1000001⟩ := by
                      show (⟨tameF ⟨f, t, p⟩ n, tameT ⟨f, t, p⟩ n, tameP ⟨f, t, p⟩⟩ : S47) = _
                      rw [HFT.out, HTT.out, HPP.out]
                    have HY := Lib.hid hy
                    have hsW := HB3.out.size
                    have hOW := Lib.hid (Kd.R_below HO.out HB3.out)
                    clear hy
                    try clear hs0
                    try clear hs1
                    try clear hs2
                    go_wp2_with (at_builtin; refine Kd.R_append k47 (w0 := w) w.heap.size rfl (.tmp 70) (.tmp 72) 22 47 (.agg #[(.int .i64 0), (.int .i64 0), (.int .i64 0)]) 24 rfl Try.underlying22 info47 rfl (by decide) (by omega) u7 (M.take q) (⟨mf, mf + 1 + mt, modV p 1000001⟩ : S47) [.int .i64 (mf), .int .i64 (mf + 1 + mt), .int .i64 (modV p 1000001)] (fun _ => True) (fun _ => False) rfl rfl ?aP (fun _ hk => hk.elim) (fun _ _ => trivial) ?aO ?aB ?aS ?aL ?_)
                    case aP => exact k47_mkM _ _ _ (⟨mf, mf + 1 + mt, modV p 1000001⟩ : S47)
                    case aO => exact hOW.out
                    case aB => exact hB.trans (HB3.out.mono (by omega))
                    case aS => omega
                    case aL => have h9 := HLEN.out; (try simp only [List.length_take] at h9 ⊢); omega
                    intro v1 w9 ho hb hg hat
                    have HO9 := Lib.hid ho
                    clear ho hg hat
                    clear z03 z13 z23 zf3
                    go_wp2_with fail
                    go_roundw
                    case rel => exact ⟨q + 1, by go_num, by omega, by omega, (by rw [HNX.out, HY.out]; exact HO9.out), hb⟩
                    case measure => simp [intOf]; omega
                  · have hpp : tameP ⟨f, t, p⟩ = p := by unfold tameP; exact if_neg (show ¬ (p < 0 ∨ 1000000 < p) by omega)
                    have HPP := Lib.hid hpp
                    clear hpp
                    have z02 : W2.cell? ⟨wr.heap.size, 0, none⟩ = some (.int .i64 (mf)) := by simp [World.cell?, HG2.out]
                    have z12 : W2.cell? ⟨wr.heap.size, 1, none⟩ = some (.int .i64 (mf + 1 + mt)) := by simp [World.cell?, HG2.out]
                    have z22 : W2.cell? ⟨wr.heap.size, 2, none⟩ = some (.int .i64 (p)) := by simp [World.cell?, HG2.out]
                    have zf2 : ∀ k, W2.frozen? ⟨wr.heap.size, k, none⟩ = false := fun k => by simp [World.frozen?, HG2.out]
                    go_upto_region 11 with fail
                    clear z02 z12 z22 zf2
                    have z02 : W2.cell? ⟨wr.heap.size, 0, none⟩ = some (.int .i64 (mf)) := by simp [World.cell?, HG2.out]
                    have z12 : W2.cell? ⟨wr.heap.size, 1, none⟩ = some (.int .i64 (mf + 1 + mt)) := by simp [World.cell?, HG2.out]
                    have z22 : W2.cell? ⟨wr.heap.size, 2, none⟩ = some (.int .i64 (p)) := by simp [World.cell?, HG2.out]
                    have zf2 : ∀ k, W2.frozen? ⟨wr.heap.size, k, none⟩ = false := fun k => by simp [World.frozen?, HG2.out]
                    have hy : tame1 (n : Int) ⟨f, t, p⟩ = ⟨mf, mf + 1 + mt, p⟩ := by
                      show (⟨tameF ⟨f, t, p⟩ n, tameT ⟨f, t, p⟩ n, tameP ⟨f, t, p⟩⟩ : S47) = _
                      rw [HFT.out, HTT.out, HPP.out]
                    have HY := Lib.hid hy
                    have hsW := HB2.out.size
                    have hOW := Lib.hid (Kd.R_below HO.out HB2.out)
                    clear hy
                    try clear hs0
                    try clear hs1
                    try clear hs2
                    go_wp2_with (at_builtin; refine Kd.R_append k47 (w0 := w) w.heap.size rfl (.tmp 70) (.tmp 72) 22 47 (.agg #[(.int .i64 0), (.int .i64 0), (.int .i64 0)]) 24 rfl Try.underlying22 info47 rfl (by decide) (by omega) u7 (M.take q) (⟨mf, mf + 1 + mt, p⟩ : S47) [.int .i64 (mf), .int .i64 (mf + 1 + mt), .int .i64 (p)] (fun _ => True) (fun _ => False) rfl rfl ?aP (fun _ hk => hk.elim) (fun _ _ => trivial) ?aO ?aB ?aS ?aL ?_)
                    case aP => exact k47_mkM _ _ _ (⟨mf, mf + 1 + mt, p⟩ : S47)
                    case aO => exact hOW.out
                    case aB => exact hB.trans (HB2.out.mono (by omega))
                    case aS => omega
                    case aL => have h9 := HLEN.out; (try simp only [List.length_take] at h9 ⊢); omega
                    intro v1 w9 ho hb hg hat
                    have HO9 := Lib.hid ho
                    clear ho hg hat
                    clear z02 z12 z22 zf2
                    go_wp2_with fail
                    go_roundw
                    case rel => exact ⟨q + 1, by go_num, by omega, by omega, (by rw [HNX.out, HY.out]; exact HO9.out), hb⟩
                    case measure => simp [intOf]; omega
            · have hft : tameF ⟨f, t, p⟩ n = f := by unfold tameF; exact if_neg (show ¬ (f < 0 ∨ (n : Int) < t ∨ t ≤ f) by omega)
              have htt : tameT ⟨f, t, p⟩ n = t := by unfold tameT; exact if_neg (show ¬ (f < 0 ∨ (n : Int) < t ∨ t ≤ f) by omega)
              have HFT := Lib.hid hft
              have HTT := Lib.hid htt
              clear hft htt
              go_upto_region 9 with fail
              rw [← HW0.out]
              by_cases k5 : p < 0
              · have hp0 := modV_bd (x := p) (n := 1000001) (by omega) (by omega)
                have hpp : tameP ⟨f, t, p⟩ = modV p 1000001 := by unfold tameP; rw [if_pos (Or.inl k5)]
                have HPP := Lib.hid hpp
                have HMP := Lib.hid (fun w => mod_c p 1000001 w (by omega) (by omega))
                clear hp0 hpp
                have z00 : W0.cell? ⟨wr.heap.size, 0, none⟩ = some (.int .i64 (f)) := by simp [World.cell?, HG0.out]
                have z10 : W0.cell? ⟨wr.heap.size, 1, none⟩ = some (.int .i64 (t)) := by simp [World.cell?, HG0.out]
                have z20 : W0.cell? ⟨wr.heap.size, 2, none⟩ = some (.int .i64 (p)) := by simp [World.cell?, HG0.out]
                have zf0 : ∀ k, W0.frozen? ⟨wr.heap.size, k, none⟩ = false := fun k => by simp [World.frozen?, HG0.out]
                go_wp2_with fail
                refine (HMP.out _).mono ?_
                rintro e w5 ⟨rfl, n5, rfl⟩
                go_upto_region 11 with fail
                obtain ⟨W3, hW3⟩ : ∃ W3, W3 = (W0.drewN n5).setCell ⟨wr.heap.size, 2, none⟩ (.int .i64 (modV p 1000001)) := ⟨_, rfl⟩
                rw [← hW3]
                have HG3 : Hid (W3.heap[wr.heap.size]? = some (.cells #[Value.int .i64 (f), Value.int .i64 (t), Value.int .i64 (modV p 1000001)] 47 (0, 0))) := Lib.hid (by rw [hW3]; have := HG0.out; simp [World.setCell, Array.getElem?_modify, this])
                have HB3 : Hid (Below wr.heap.size wr W3) := Lib.hid (by rw [hW3]; exact (HBW0.out.trans ((pw_below_drewN (Below.refl _ _) n5).mono (by show wr.heap.size ≤ W0.heap.size; omega))).setCell (p := ⟨wr.heap.size, 2, none⟩) (Nat.le_refl _) _)
                clear z00 z10 z20 zf0
                clear hW3
                have z03 : W3.cell? ⟨wr.heap.size, 0, none⟩ = some (.int .i64 (f)) := by simp [World.cell?, HG3.out]
                have z13 : W3.cell? ⟨wr.heap.size, 1, none⟩ = some (.int .i64 (t)) := by simp [World.cell?, HG3.out]
                have z23 : W3.cell? ⟨wr.heap.size, 2, none⟩ = some (.int .i64 (modV p 1000001)) := by simp [World.cell?, HG3.out]
                have zf3 : ∀ k, W3.frozen? ⟨wr.heap.size, k, none⟩ = false := fun k => by simp [World.frozen?, HG3.out]
                have hy : tame1 (n : Int) ⟨f, t, p⟩ = ⟨f, t, modV p 1000001⟩ := by
                  show (⟨tameF ⟨f, t, p⟩ n, tameT ⟨f, t, p⟩ n, tameP ⟨f, t, p⟩⟩ : S47) = _
                  rw [HFT.out, HTT.out, HPP.out]
                have HY := Lib.hid hy
                have hsW := HB3.out.size
                have hOW := Lib.hid (Kd.R_below HO.out HB3.out)
                clear hy
                try clear hs0
                try clear hs1
                try clear hs2
                go_wp2_with (at_builtin; refine Kd.R_append k47 (w0 := w) w.heap.size rfl (.tmp 70) (.tmp 72) 22 47 (.agg #[(.int .i64 0), (.int .i64 0), (.int .i64 0)]) 24 rfl Try.underlying22 info47 rfl (by decide) (by omega) u7 (M.take q) (⟨f, t, modV p 1000001⟩ : S47) [.int .i64 (f), .int .i64 (t), .int .i64 (modV p 1000001)] (fun _ => True) (fun _ => False) rfl rfl ?aP (fun _ hk => hk.elim) (fun _ _ => trivial) ?aO ?aB ?aS ?aL ?_)
                case aP => exact k47_mkM _ _ _ (⟨f, t, modV p 1000001⟩ : S47)
                case aO => exact hOW.out
                case aB => exact hB.trans (HB3.out.mono (by omega))
                case aS => omega
                case aL => have h9 := HLEN.out; (try simp only [List.length_take] at h9 ⊢); omega
                intro v1 w9 ho hb hg hat
                have HO9 := Lib.hid ho
                clear ho hg hat
                clear z03 z13 z23 zf3
                go_wp2_with fail
                go_roundw
                case rel => exact ⟨q + 1, by go_num, by omega, by omega, (by rw [HNX.out, HY.out]; exact HO9.out), hb⟩
                case measure => simp [intOf]; omega
              · by_cases k6 : 1000000 < p
                · have hp0 := modV_bd (x := p) (n := 1000001) (by omega) (by omega)
                  have hpp : tameP ⟨f, t, p⟩ = modV p 1000001 := by unfold tameP; rw [if_pos (Or.inr k6)]
                  have HPP := Lib.hid hpp
                  have HMP := Lib.hid (fun w => mod_c p 1000001 w (by omega) (by omega))
                  clear hp0 hpp
                  have z00 : W0.cell? ⟨wr.heap.size, 0, none⟩ = some (.int .i64 (f)) := by simp [World.cell?, HG0.out]
                  have z10 : W0.cell? ⟨wr.heap.size, 1, none⟩ = some (.int .i64 (t)) := by simp [World.cell?, HG0.out]
                  have z20 : W0.cell? ⟨wr.heap.size, 2, none⟩ = some (.int .i64 (p)) := by simp [World.cell?, HG0.out]
                  have zf0 : ∀ k, W0.frozen? ⟨wr.heap.size, k, none⟩ = false := fun k => by simp [World.frozen?, HG0.out]
                  go_wp2_with fail
                  refine (HMP.out _).mono ?_
                  rintro e w5 ⟨rfl, n5, rfl⟩
                  go_upto_region 11 with fail
                  obtain ⟨W3, hW3⟩ : ∃ W3, W3 = (W0.drewN n5).setCell ⟨wr.heap.size, 2, none⟩ (.int .i64 (modV p 1000001)) := ⟨_, rfl⟩
                  rw [← hW3]
                  have HG3 : Hid (W3.heap[wr.heap.size]? = some (.cells #[Value.int .i64 (f), Value.int .i64 (t), Value.int .i64 (modV p 1000001)] 47 (0, 0))) := Lib.hid (by rw [hW3]; have := HG0.out; simp [World.setCell, Array.getElem?_modify, this])
                  have HB3 : Hid (Below wr.heap.size wr W3) := Lib.hid (by rw [hW3]; exact (HBW0.out.trans ((pw_below_drewN (Below.refl _ _) n5).mono (by show wr.heap.size ≤ W0.heap.size; omega))).setCell (p := ⟨wr.heap.size, 2, none⟩) (Nat.le_refl _) _)
                  clear z00 z10 z20 zf0
                  clear hW3
                  have z03 : W3.cell? ⟨wr.heap.size, 0, none⟩ = some (.int .i64 (f)) := by simp [World.cell?, HG3.out]
                  have z13 : W3.cell? ⟨wr.heap.size, 1, none⟩ = some (.int .i64 (t)) := by simp [World.cell?, HG3.out]
                  have z23 : W3.cell? ⟨wr.heap.size, 2, none⟩ = some (.int .i64 (modV p 1000001)) := by simp [World.cell?, HG3.out]
                  have zf3 : ∀ k, W3.frozen? ⟨wr.heap.size, k, none⟩ = false := fun k => by simp [World.frozen?, HG3.out]
                  have hy : tame1 (n : Int) ⟨f, t, p⟩ = ⟨f, t, modV p 1000001⟩ := by
                    show (⟨tameF ⟨f, t, p⟩ n, tameT ⟨f, t, p⟩ n, tameP ⟨f, t, p⟩⟩ : S47) = _
                    rw [HFT.out, HTT.out, HPP.out]
                  have HY := Lib.hid hy
                  have hsW := HB3.out.size
                  have hOW := Lib.hid (Kd.R_below HO.out HB3.out)
                  clear hy
                  try clear hs0
                  try clear hs1
                  try clear hs2
                  go_wp2_with (at_builtin; refine Kd.R_append k47 (w0 := w) w.heap.size rfl (.tmp 70) (.tmp 72) 22 47 (.agg #[(.int .i64 0), (.int .i64 0), (.int .i64 0)]) 24 rfl Try.underlying22 info47 rfl (by decide) (by omega) u7 (M.take q) (⟨f, t, modV p 1000001⟩ : S47) [.int .i64 (f), .int .i64 (t), .int .i64 (modV p 1000001)] (fun _ => True) (fun _ => False) rfl rfl ?aP (fun _ hk => hk.elim) (fun _ _ => trivial) ?aO ?aB ?aS ?aL ?_)
                  case aP => exact k47_mkM _ _ _ (⟨f, t, modV p 1000001⟩ : S47)
                  case aO => exact hOW.out
                  case aB => exact hB.trans (HB3.out.mono (by omega))
                  case aS => omega
                  case aL => have h9 := HLEN.out; (try simp only [List.length_take] at h9 ⊢); omega
                  intro v1 w9 ho hb hg hat
                  have HO9 := Lib.hid ho
                  clear ho hg hat
                  clear z03 z13 z23 zf3
                  go_wp2_with fail
                  go_roundw
                  case rel => exact ⟨q + 1, by go_num, by omega, by omega, (by rw [HNX.out, HY.out]; exact HO9.out), hb⟩
                  case measure => simp [intOf]; omega
                · have hpp : tameP ⟨f, t, p⟩ = p := by unfold tameP; exact if_neg (show ¬ (p < 0 ∨ 1000000 < p) by omega)
                  have HPP := Lib.hid hpp
                  clear hpp
                  have z00 : W0.cell? ⟨wr.heap.size, 0, none⟩ = some (.int .i64 (f)) := by simp [World.cell?, HG0.out]
                  have z10 : W0.cell? ⟨wr.heap.size, 1, none⟩ = some (.int .i64 (t)) := by simp [World.cell?, HG0.out]
                  have z20 : W0.cell? ⟨wr.heap.size, 2, none⟩ = some (.int .i64 (p)) := by simp [World.cell?, HG0.out]
                  have zf0 : ∀ k, W0.frozen? ⟨wr.heap.size, k, none⟩ = false := fun k => by simp [World.frozen?, HG0.out]
                  go_upto_region 11 with fail
                  clear z00 z10 z20 zf0
                  have z00 : W0.cell? ⟨wr.heap.size, 0, none⟩ = some (.int .i64 (f)) := by simp [World.cell?, HG0.out]
                  have z10 : W0.cell? ⟨wr.heap.size, 1, none⟩ = some (.int .i64 (t)) := by simp [World.cell?, HG0.out]
                  have z20 : W0.cell? ⟨wr.heap.size, 2, none⟩ = some (.int .i64 (p)) := by simp [World.cell?, HG0.out]
                  have zf0 : ∀ k, W0.frozen? ⟨wr.heap.size, k, none⟩ = false := fun k => by simp [World.frozen?, HG0.out]
                  have hy : tame1 (n : Int) ⟨f, t, p⟩ = ⟨f, t, p⟩ := by
                    show (⟨tameF ⟨f, t, p⟩ n, tameT ⟨f, t, p⟩ n, tameP ⟨f, t, p⟩⟩ : S47) = _
                    rw [HFT.out, HTT.out, HPP.out]
                  have HY := Lib.hid hy
                  have hsW := HBW0.out.size
                  have hOW := Lib.hid (Kd.R_below HO.out HBW0.out)
                  clear hy
                  try clear hs0
                  try clear hs1
                  try clear hs2
                  go_wp2_with (at_builtin; refine Kd.R_append k47 (w0 := w) w.heap.size rfl (.tmp 70) (.tmp 72) 22 47 (.agg #[(.int .i64 0), (.int .i64 0), (.int .i64 0)]) 24 rfl Try.underlying22 info47 rfl (by decide) (by omega) u7 (M.take q) (⟨f, t, p⟩ : S47) [.int .i64 (f), .int .i64 (t), .int .i64 (p)] (fun _ => True) (fun _ => False) rfl rfl ?aP (fun _ hk => hk.elim) (fun _ _ => trivial) ?aO ?aB ?aS ?aL ?_)
                  case aP => exact k47_mkM _ _ _ (⟨f, t, p⟩ : S47)
                  case aO => exact hOW.out
                  case aB => exact hB.trans (HBW0.out.mono (by omega))
                  case aS => omega
                  case aL => have h9 := HLEN.out; (try simp only [List.length_take] at h9 ⊢); omega
                  intro v1 w9 ho hb hg hat
                  have HO9 := Lib.hid ho
                  clear ho hg hat
                  clear z00 z10 z20 zf0
                  go_wp2_with fail
                  go_roundw
                  case rel => exact ⟨q + 1, by go_num, by omega, by omega, (by rw [HNX.out, HY.out]; exact HO9.out), hb⟩
                  case measure => simp [intOf]; omega
      · obtain rfl : q = most := by omega
        have hlm' : decide ((q : Int) < (q : Int)) = false := by simp
        have HO1 := HO
        have hlt' : (q : Int) < l.length := by omega
        clear hlm'
        go_wp2_with fail
        go_ret
        exact ⟨_, rfl, HO1.out, hB⟩
    · obtain rfl : q = l.length := by omega
      have e : M.take most = M.take l.length := by rw [List.take_of_length_le (by rw [HML.out]; exact hqm), List.take_of_length_le (by rw [HML.out]; exact Nat.le_refl _)]
      have HO1 : Hid (Kd.R k47 47 wr w.heap.size (fun _ => True) u7 (M.take most)) := Lib.hid (by rw [e]; exact HO.out)
      clear e
      go_wp2_with fail
      go_ret
      exact ⟨_, rfl, HO1.out, hB⟩
end Go.Proofs.Ytpjobcnfjpbaeaa.A

namespace Go.Proofs.Ytpjobcnfjpbaeaa.PA
open Go.RowKit Go.Proofs.YtpjobcnfjpbaeaaW.PrintWords Go.Proofs.YtpjobcnfjpbaeaaW.PrintLast Go.Proofs.YtpjobcnfjpbaeaaW.PrintMore
attribute [local go_sem] max2_int min2_int max_two min_two max_three min_three max_four min_four
set_option linter.unusedVariables false
set_option linter.unusedSimpArgs false
mutual
def turndownlaw08_tamed.l0 : Nat → List Int → List Int → Int → Option (List Int)
  | 0, _, _, _ => none
  | k + 1, x0, x3, x4 => if x4 < (x0.length : Int) then (turndownlaw08_tamed.j1 k x0 x3 x4 (decide (x4 < 60))) else (turndownlaw08_tamed.j1 k x0 x3 x4 false)
def turndownlaw08_tamed.j1 : Nat → List Int → List Int → Int → Bool → Option (List Int)
  | 0, _, _, _, _ => none
  | k + 1, x0, x3, x4, x13 => if x13 = true then (if 0 ≤ x4 then (if x4 < (x0.length : Int) then (if (rd x0 x4) < 0 then ((turndownlaw08_mod.f (rd x0 x4) 9).bind fun t216 => (if x3.length < 17592186044416 then (turndownlaw08_tamed.l0 k x0 (x3 ++ [t216]) (wrap64 (x4 + 1))) else (none))) else (if (rd x0 x4) > 8 then ((turndownlaw08_mod.f (rd x0 x4) 9).bind fun t220 => (if x3.length < 17592186044416 then (turndownlaw08_tamed.l0 k x0 (x3 ++ [t220]) (wrap64 (x4 + 1))) else (none))) else (if x3.length < 17592186044416 then (turndownlaw08_tamed.l0 k x0 (x3 ++ [rd x0 x4]) (wrap64 (x4 + 1))) else (none)))) else (none)) else (none)) else (if (x3.length : Int) = 0 then (if x3.length < 17592186044416 then (some (x3 ++ [1])) else (none)) else (some x3))
end
def turndownlaw08_tamed.f (k : Nat) (l0 : List Int) : Option (List Int) := turndownlaw08_tamed.l0 k l0 ([] : List Int) 0
theorem turndownlaw08_tamed.mono_l : ∀ k, (∀ y0 y1 y2, LeO (turndownlaw08_tamed.l0 k y0 y1 y2) (turndownlaw08_tamed.l0 (k + 1) y0 y1 y2)) ∧ (∀ y0 y1 y2 y3, LeO (turndownlaw08_tamed.j1 k y0 y1 y2 y3) (turndownlaw08_tamed.j1 (k + 1) y0 y1 y2 y3))
  | 0 => ⟨fun _ _ _ r h => by simp [turndownlaw08_tamed.l0] at h, fun _ _ _ _ r h => by simp [turndownlaw08_tamed.j1] at h⟩
  | k + 1 => by
    obtain ⟨ih0, ih1⟩ := turndownlaw08_tamed.mono_l k
    refine ⟨?_, ?_⟩
    · intro y0 y1 y2
      unfold turndownlaw08_tamed.l0
      repeat' first
      | (with_reducible exact ih0 _ _ _)
      | (with_reducible exact ih1 _ _ _ _)
      | (with_reducible exact LeO.refl _)
      | (with_reducible exact LeO.none _)
      | (with_reducible refine LeO.ite ?_ ?_)
      | (with_reducible refine LeO.bind ?_ (fun _ => ?_))
      | exact ih0 _ _ _
      | exact ih1 _ _ _ _
      | exact LeO.none _
      | refine LeO.ite ?_ ?_
      | refine LeO.bind ?_ (fun _ => ?_)
    · intro y0 y1 y2 y3
      unfold turndownlaw08_tamed.j1
      repeat' first
      | (with_reducible exact ih0 _ _ _)
      | (with_reducible exact ih1 _ _ _ _)
      | (with_reducible exact LeO.refl _)
      | (with_reducible exact LeO.none _)
      | (with_reducible refine LeO.ite ?_ ?_)
      | (with_reducible refine LeO.bind ?_ (fun _ => ?_))
      | exact ih0 _ _ _
      | exact ih1 _ _ _ _
      | exact LeO.none _
      | refine LeO.ite ?_ ?_
      | refine LeO.bind ?_ (fun _ => ?_)
theorem turndownlaw08_tamed.mono : ∀ a0 k, LeO (turndownlaw08_tamed.f k a0) (turndownlaw08_tamed.f (k + 1) a0) := by
  intro a0 k
  obtain ⟨ih0, ih1⟩ := turndownlaw08_tamed.mono_l k
  unfold turndownlaw08_tamed.f
  repeat' first
      | (with_reducible exact ih0 _ _ _)
      | (with_reducible exact ih1 _ _ _ _)
      | (with_reducible exact LeO.refl _)
      | (with_reducible exact LeO.none _)
      | (with_reducible refine LeO.ite ?_ ?_)
      | (with_reducible refine LeO.bind ?_ (fun _ => ?_))
      | exact ih0 _ _ _
      | exact ih1 _ _ _ _
      | exact LeO.none _
      | refine LeO.ite ?_ ?_
      | refine LeO.bind ?_ (fun _ => ?_)
set_option maxHeartbeats 8000000 in
set_option maxRecDepth 100000 in
theorem turndownlaw08_tamed.calls (k : Nat) (A0 : Option Addr) (c0 : Nat) (l0 : List Int) (r : List Int) (w : World) (hr0 : Kd.C (Kd.int .i64) w A0 l0.length l0) (hc0 : l0.length ≤ c0) (h : turndownlaw08_tamed.f k l0 = some r) :
    Calls Try.prog 23 #[.slice A0 l0.length c0] w fun e w' => ∃ v0_ : Value, e = .returned (v0_) ∧ Kd.R (Kd.int .i64) 3 w' w.heap.size (fun _ => True) v0_ r ∧ Below w.heap.size w w' := by
  have HR0 := Aside0.mk hr0
  have HC0 := Aside0.mk hc0
  clear hr0 hc0
  have HB := Aside0.mk (Below.refl w.heap.size w)
  have H : (turndownlaw08_tamed.l0 k l0 ([] : List Int) 0) = some r := h
  clear h
  have H' := Aside0.mk H
  clear H
  go_enter Try.func23, Try.ntmps23
  go_wp2
  go_loopg [3, 4] k (fun kq v3 v4 w' => ∃ (x3_1 : List Int) (x4_1 : Int), v4 = .int .i64 x4_1 ∧ Aside0 (turndownlaw08_tamed.l0 kq l0 x3_1 x4_1 = some r) ∧ Aside0 (kq ≤ k) ∧ Aside0 (Kd.R (Kd.int .i64) 3 w' w.heap.size (fun _ => True) v3 x3_1) ∧ Aside0 (Below w.heap.size w w'))
  case atStart => exact ⟨(([] : List Int)), (0), (by first | rfl | (simp; done) | (simp [*]; done)), H', ⟨Nat.le_refl _⟩, ⟨by first | exact Kd.R_nil _ _ _ _ _ | exact Kd.N_nil _ _ _ _ _ | exact Kd.V_nil _ _ _ _ _ | exact Kd.Q_nil _ _ _ _ _ | exact Kd.S_nil _ _ _ _ _⟩, ⟨by repeat (first | (with_reducible first | exact HB.out | apply below_alloc | apply pw_below_drewN | apply below_drew1) | exact HB.out)⟩⟩
  case round =>
    clear H'
    obtain ⟨x3_1, x4_1, rfl, HA, HK1, HO_3, HB⟩ := hrel
    cases gk with
    | zero => exact absurd HA.out (by simp [turndownlaw08_tamed.l0])
    | succ k1 =>
      have H := HA.out
      clear HA
      simp only [turndownlaw08_tamed.l0] at H
      have HC2 := Aside0.mk H
      clear H
      go_upto_region 3 with (fail)
      go_cut [13] (fun v13 wc => ∃ (kq : Nat) (x13_1 : Bool), v13 = .bool x13_1 ∧ Aside0 (turndownlaw08_tamed.j1 kq l0 x3_1 x4_1 x13_1 = some r) ∧ Aside0 (kq ≤ k1) ∧ Aside0 (Kd.R (Kd.int .i64) 3 wc w.heap.size (fun _ => True) u3 x3_1) ∧ Aside0 (Below w.heap.size w wc))
      case first =>
        have H := HC2.out
        clear HC2
        by_cases c3 : x4_1 < (l0.length : Int)
        · rw [if_pos c3] at H
          have c3b0 : decide (x4_1 < (l0.length : Int)) = true := decide_eq_true c3
          clear c3
          (first | rw [c3b0] | (simp only [i64_w, i32_w]; rw [c3b0]) | skip)
          have H' := Aside0.mk H
          clear H
          go_wp2
          go_meet
          case rel => exact ⟨_, (decide (x4_1 < 60)), (by first | rfl | (simp; done) | (simp [*]; done)), H', ⟨by have := HK1.out; first | omega | exact Nat.le_refl _⟩, ⟨by (with_reducible repeat (first | apply Kd.R_alloc | apply Kd.R_drewN | apply Kd.R_drew)); exact HO_3.out⟩, ⟨by repeat (first | (with_reducible first | exact HB.out | apply below_alloc | apply pw_below_drewN | apply below_drew1) | exact HB.out)⟩⟩
        · rw [if_neg c3] at H
          have c3b0 : decide (x4_1 < (l0.length : Int)) = false := decide_eq_false c3
          clear c3
          (first | rw [c3b0] | (simp only [i64_w, i32_w]; rw [c3b0]) | skip)
          have H' := Aside0.mk H
          clear H
          go_wp2
          go_meet
          case rel => exact ⟨_, (false), (by first | rfl | (simp; done) | (simp [*]; done)), H', ⟨by have := HK1.out; first | omega | exact Nat.le_refl _⟩, ⟨by (with_reducible repeat (first | apply Kd.R_alloc | apply Kd.R_drewN | apply Kd.R_drew)); exact HO_3.out⟩, ⟨by repeat (first | (with_reducible first | exact HB.out | apply below_alloc | apply pw_below_drewN | apply below_drew1) | exact HB.out)⟩⟩
      case rest =>
        clear HC2
        try clear c2
        try clear p2
        try clear c3
        try clear c3b0
        obtain ⟨kq, x13_1, rfl, HA, HJ1, HO_3, HB⟩ := hcut
        cases kq with
        | zero => exact absurd HA.out (by simp [turndownlaw08_tamed.j1])
        | succ kj1 =>
          have H := HA.out
          clear HA
          simp only [turndownlaw08_tamed.j1] at H
          by_cases c4 : x13_1 = true
          · subst c4
            have H1 : (if 0 ≤ x4_1 then (if x4_1 < (l0.length : Int) then (if (rd l0 x4_1) < 0 then ((turndownlaw08_mod.f (rd l0 x4_1) 9).bind fun t216 => (if x3_1.length < 17592186044416 then (turndownlaw08_tamed.l0 kj1 l0 (x3_1 ++ [t216]) (wrap64 (x4_1 + 1))) else (none))) else (if (rd l0 x4_1) > 8 then ((turndownlaw08_mod.f (rd l0 x4_1) 9).bind fun t220 => (if x3_1.length < 17592186044416 then (turndownlaw08_tamed.l0 kj1 l0 (x3_1 ++ [t220]) (wrap64 (x4_1 + 1))) else (none))) else (if x3_1.length < 17592186044416 then (turndownlaw08_tamed.l0 kj1 l0 (x3_1 ++ [rd l0 x4_1]) (wrap64 (x4_1 + 1))) else (none)))) else (none)) else (none)) = some r := by rw [if_pos rfl] at H; exact H
            clear H
            have H := H1
            clear H1
            by_cases c5 : 0 ≤ x4_1
            · rw [if_pos c5] at H
              have c5b0 : decide (0 ≤ x4_1) = true := decide_eq_true c5
              clear c5
              by_cases c6 : x4_1 < (l0.length : Int)
              · rw [if_pos c6] at H
                have c6b0 : decide (x4_1 < (l0.length : Int)) = true := decide_eq_true c6
                clear c6
                by_cases c7 : (rd l0 x4_1) < 0
                · rw [if_pos c7] at H
                  have c7b0 : decide ((rd l0 x4_1) < 0) = true := decide_eq_true c7
                  clear c7
                  replace H := Option.bind_eq_some_iff.mp H
                  obtain ⟨t216, A80, H⟩ := H
                  replace H : (if x3_1.length < 17592186044416 then (turndownlaw08_tamed.l0 kj1 l0 (x3_1 ++ [t216]) (wrap64 (x4_1 + 1))) else (none)) = some r := H
                  have A8 := Aside0.mk A80
                  clear A80
                  by_cases c9 : x3_1.length < 17592186044416
                  · rw [if_pos c9] at H
                    have LMc9 := Aside0.mk c9
                    clear c9
                    obtain ⟨y217, hy217⟩ : ∃ y_ : List Int, y_ = (x3_1 ++ [t216]) := ⟨_, rfl⟩
                    replace H : (turndownlaw08_tamed.l0 kj1 l0 y217 (wrap64 (x4_1 + 1))) = some r := by first | (rw [hy217]; with_reducible exact H) | (have H2_ := (Option.bind_some _ _).symm.trans H; rw [hy217]; with_reducible exact H2_) | (have H2_ := (Option.bind_some _ _).symm.trans H; with_reducible exact H2_) | with_reducible exact H | (rw [hy217]; exact H) | exact H
                    have Ny217 := Aside0.mk hy217
                    clear hy217
                    have H' := Aside0.mk H
                    clear H
                    have p215 : 0 ≤ (x4_1 : Int) := of_decide_eq_true (by first | (with_reducible assumption) | assumption)
                    have q215 : x4_1 < (l0.length : Int) := of_decide_eq_true (by first | (with_reducible assumption) | assumption)
                    obtain ⟨ad215, e215, hx215_0⟩ := Kd.at_int HR0.out x4_1 p215 q215
                    cases e215
                    replace hx215_0 := (HB.out.cell (World.block_lt_of_cell? w _ hx215_0)).trans hx215_0
                    replace p215 := eq_true p215
                    replace q215 := eq_true q215
                    go_wp2_with (first | ((with_reducible refine gate_callee (f := 26) rfl ?_); refine goesL_ (some 27) rfl rfl Try.func26 (by kernel_rfl) rfl #[.int .i64 (rd l0 x4_1), .int .i64 9] rfl (by (try simp only [List.map_toArray, List.map_cons, List.map_nil]); first | done | rfl | (simp only [List.length_drop, List.length_take]; rfl)) ?_; (with_reducible refine (turndownlaw08_mod.calls (rd l0 x4_1) 9 t216 _ A8.out).mono ?_); rintro e w' ⟨rfl, ⟨nd, rfl⟩⟩; refine ⟨_, rfl, ?_⟩) | ((with_reducible refine gate_builtin (b := .append) (xs := #[.tmp 28, .tmp 30]) rfl ?_); at_builtin; refine Kd.R_append (Kd.int .i64) (w0 := w) w.heap.size rfl (.tmp 28) (.tmp 30) 23 3 (.int .i64 0) 8 rfl Try.underlying23 info3 rfl (by decide) (by omega) u3 x3_1 t216 [.int .i64 t216] (fun _ => True) (fun _ => False) rfl rfl ?aP (fun _ hk => hk.elim) ?aF ?aO ?aB ?aS ?aL ?_; (case aP => exact rfl); (case aB => exact (by repeat (first | (with_reducible first | exact HB.out | apply below_alloc | apply pw_below_drewN | apply below_drew1) | exact HB.out))); (case aF => exact (fun _ _ => trivial)); (case aO => exact (by (with_reducible repeat (first | apply Kd.R_alloc | apply Kd.R_drewN | apply Kd.R_drew)); exact HO_3.out)); (case aS => exact (below_size (by repeat (first | (with_reducible first | exact HB.out | apply below_alloc | apply pw_below_drewN | apply below_drew1) | exact HB.out)))); (case aL => have := LMc9.out; omega); intro v218 w10 ho hb hg hat; rw [← Ny217.out] at ho; have n0_ := Aside0.mk (hb); have n1_ := Aside0.mk (ho); clear HB; clear HO_3; have HB := n0_; have HO219 := n1_; clear n0_ n1_; clear ho hb hg hat))
                    go_roundg kj1
                    case measure => have := HK1.out; have := HJ1.out; omega
                    case rel => exact ⟨(y217), (wrap64 (x4_1 + 1)), (by first | rfl | (simp; done) | (simp [*]; done)), H', ⟨by have := HK1.out; have := HJ1.out; omega⟩, ⟨by (with_reducible repeat (first | apply Kd.R_alloc | apply Kd.R_drewN | apply Kd.R_drew)); exact HO219.out⟩, ⟨by repeat (first | (with_reducible first | exact HB.out | apply below_alloc | apply pw_below_drewN | apply below_drew1) | exact HB.out)⟩⟩
                  · rw [if_neg c9] at H
                    exact absurd H (by simp)
                · rw [if_neg c7] at H
                  have c7b0 : decide ((rd l0 x4_1) < 0) = false := decide_eq_false c7
                  clear c7
                  by_cases c11 : (rd l0 x4_1) > 8
                  · rw [if_pos c11] at H
                    have c11b0 : decide (8 < (rd l0 x4_1)) = true := decide_eq_true c11
                    clear c11
                    replace H := Option.bind_eq_some_iff.mp H
                    obtain ⟨t220, A120, H⟩ := H
                    replace H : (if x3_1.length < 17592186044416 then (turndownlaw08_tamed.l0 kj1 l0 (x3_1 ++ [t220]) (wrap64 (x4_1 + 1))) else (none)) = some r := H
                    have A12 := Aside0.mk A120
                    clear A120
                    by_cases c13 : x3_1.length < 17592186044416
                    · rw [if_pos c13] at H
                      have LMc13 := Aside0.mk c13
                      clear c13
                      obtain ⟨y221, hy221⟩ : ∃ y_ : List Int, y_ = (x3_1 ++ [t220]) := ⟨_, rfl⟩
                      replace H : (turndownlaw08_tamed.l0 kj1 l0 y221 (wrap64 (x4_1 + 1))) = some r := by first | (rw [hy221]; with_reducible exact H) | (have H2_ := (Option.bind_some _ _).symm.trans H; rw [hy221]; with_reducible exact H2_) | (have H2_ := (Option.bind_some _ _).symm.trans H; with_reducible exact H2_) | with_reducible exact H | (rw [hy221]; exact H) | exact H
                      have Ny221 := Aside0.mk hy221
                      clear hy221
                      have H' := Aside0.mk H
                      clear H
                      have p215 : 0 ≤ (x4_1 : Int) := of_decide_eq_true (by first | (with_reducible assumption) | assumption)
                      have q215 : x4_1 < (l0.length : Int) := of_decide_eq_true (by first | (with_reducible assumption) | assumption)
                      obtain ⟨ad215, e215, hx215_0⟩ := Kd.at_int HR0.out x4_1 p215 q215
                      cases e215
                      replace hx215_0 := (HB.out.cell (World.block_lt_of_cell? w _ hx215_0)).trans hx215_0
                      replace p215 := eq_true p215
                      replace q215 := eq_true q215
                      go_wp2_with (first | ((with_reducible refine gate_callee (f := 26) rfl ?_); refine goesL_ (some 27) rfl rfl Try.func26 (by kernel_rfl) rfl #[.int .i64 (rd l0 x4_1), .int .i64 9] rfl (by (try simp only [List.map_toArray, List.map_cons, List.map_nil]); first | done | rfl | (simp only [List.length_drop, List.length_take]; rfl)) ?_; (with_reducible refine (turndownlaw08_mod.calls (rd l0 x4_1) 9 t220 _ A12.out).mono ?_); rintro e w' ⟨rfl, ⟨nd, rfl⟩⟩; refine ⟨_, rfl, ?_⟩) | ((with_reducible refine gate_builtin (b := .append) (xs := #[.tmp 28, .tmp 30]) rfl ?_); at_builtin; refine Kd.R_append (Kd.int .i64) (w0 := w) w.heap.size rfl (.tmp 28) (.tmp 30) 23 3 (.int .i64 0) 8 rfl Try.underlying23 info3 rfl (by decide) (by omega) u3 x3_1 t220 [.int .i64 t220] (fun _ => True) (fun _ => False) rfl rfl ?aP (fun _ hk => hk.elim) ?aF ?aO ?aB ?aS ?aL ?_; (case aP => exact rfl); (case aB => exact (by repeat (first | (with_reducible first | exact HB.out | apply below_alloc | apply pw_below_drewN | apply below_drew1) | exact HB.out))); (case aF => exact (fun _ _ => trivial)); (case aO => exact (by (with_reducible repeat (first | apply Kd.R_alloc | apply Kd.R_drewN | apply Kd.R_drew)); exact HO_3.out)); (case aS => exact (below_size (by repeat (first | (with_reducible first | exact HB.out | apply below_alloc | apply pw_below_drewN | apply below_drew1) | exact HB.out)))); (case aL => have := LMc13.out; omega); intro v222 w14 ho hb hg hat; rw [← Ny221.out] at ho; have n0_ := Aside0.mk (hb); have n1_ := Aside0.mk (ho); clear HB; clear HO_3; have HB := n0_; have HO223 := n1_; clear n0_ n1_; clear ho hb hg hat))
                      go_roundg kj1
                      case measure => have := HK1.out; have := HJ1.out; omega
                      case rel => exact ⟨(y221), (wrap64 (x4_1 + 1)), (by first | rfl | (simp; done) | (simp [*]; done)), H', ⟨by have := HK1.out; have := HJ1.out; omega⟩, ⟨by (with_reducible repeat (first | apply Kd.R_alloc | apply Kd.R_drewN | apply Kd.R_drew)); exact HO223.out⟩, ⟨by repeat (first | (with_reducible first | exact HB.out | apply below_alloc | apply pw_below_drewN | apply below_drew1) | exact HB.out)⟩⟩
                    · rw [if_neg c13] at H
                      exact absurd H (by simp)
                  · rw [if_neg c11] at H
                    have c11b0 : decide (8 < (rd l0 x4_1)) = false := decide_eq_false c11
                    clear c11
                    by_cases c15 : x3_1.length < 17592186044416
                    · rw [if_pos c15] at H
                      have LMc15 := Aside0.mk c15
                      clear c15
                      obtain ⟨y224, hy224⟩ : ∃ y_ : List Int, y_ = (x3_1 ++ [rd l0 x4_1]) := ⟨_, rfl⟩
                      replace H : (turndownlaw08_tamed.l0 kj1 l0 y224 (wrap64 (x4_1 + 1))) = some r := by first | (rw [hy224]; with_reducible exact H) | (have H2_ := (Option.bind_some _ _).symm.trans H; rw [hy224]; with_reducible exact H2_) | (have H2_ := (Option.bind_some _ _).symm.trans H; with_reducible exact H2_) | with_reducible exact H | (rw [hy224]; exact H) | exact H
                      have Ny224 := Aside0.mk hy224
                      clear hy224
                      have H' := Aside0.mk H
                      clear H
                      have p215 : 0 ≤ (x4_1 : Int) := of_decide_eq_true (by first | (with_reducible assumption) | assumption)
                      have q215 : x4_1 < (l0.length : Int) := of_decide_eq_true (by first | (with_reducible assumption) | assumption)
                      obtain ⟨ad215, e215, hx215_0⟩ := Kd.at_int HR0.out x4_1 p215 q215
                      cases e215
                      replace hx215_0 := (HB.out.cell (World.block_lt_of_cell? w _ hx215_0)).trans hx215_0
                      replace p215 := eq_true p215
                      replace q215 := eq_true q215
                      go_wp2_with (first | ((with_reducible refine gate_builtin (b := .append) (xs := #[.tmp 28, .tmp 30]) rfl ?_); at_builtin; refine Kd.R_append (Kd.int .i64) (w0 := w) w.heap.size rfl (.tmp 28) (.tmp 30) 23 3 (.int .i64 0) 8 rfl Try.underlying23 info3 rfl (by decide) (by omega) u3 x3_1 (rd l0 x4_1) [.int .i64 (rd l0 x4_1)] (fun _ => True) (fun _ => False) rfl rfl ?aP (fun _ hk => hk.elim) ?aF ?aO ?aB ?aS ?aL ?_; (case aP => exact rfl); (case aB => exact (by repeat (first | (with_reducible first | exact HB.out | apply below_alloc | apply pw_below_drewN | apply below_drew1) | exact HB.out))); (case aF => exact (fun _ _ => trivial)); (case aO => exact (by (with_reducible repeat (first | apply Kd.R_alloc | apply Kd.R_drewN | apply Kd.R_drew)); exact HO_3.out)); (case aS => exact (below_size (by repeat (first | (with_reducible first | exact HB.out | apply below_alloc | apply pw_below_drewN | apply below_drew1) | exact HB.out)))); (case aL => have := LMc15.out; omega); intro v225 w16 ho hb hg hat; rw [← Ny224.out] at ho; have n0_ := Aside0.mk (hb); have n1_ := Aside0.mk (ho); clear HB; clear HO_3; have HB := n0_; have HO226 := n1_; clear n0_ n1_; clear ho hb hg hat))
                      go_roundg kj1
                      case measure => have := HK1.out; have := HJ1.out; omega
                      case rel => exact ⟨(y224), (wrap64 (x4_1 + 1)), (by first | rfl | (simp; done) | (simp [*]; done)), H', ⟨by have := HK1.out; have := HJ1.out; omega⟩, ⟨by (with_reducible repeat (first | apply Kd.R_alloc | apply Kd.R_drewN | apply Kd.R_drew)); exact HO226.out⟩, ⟨by repeat (first | (with_reducible first | exact HB.out | apply below_alloc | apply pw_below_drewN | apply below_drew1) | exact HB.out)⟩⟩
                    · rw [if_neg c15] at H
                      exact absurd H (by simp)
              · rw [if_neg c6] at H
                exact absurd H (by simp)
            · rw [if_neg c5] at H
              exact absurd H (by simp)
          · replace c4 := Bool.eq_false_iff.mpr c4
            subst c4
            have H1 : (if (x3_1.length : Int) = 0 then (if x3_1.length < 17592186044416 then (some (x3_1 ++ [1])) else (none)) else (some x3_1)) = some r := by rw [if_neg (show ¬ (false = true) by decide)] at H; exact H
            clear H
            have H := H1
            clear H1
            by_cases c17 : (x3_1.length : Int) = 0
            · rw [if_pos c17] at H
              have c17b0 : ((x3_1.length : Int) == 0) = true := beq_iff_eq.mpr c17
              have c17b1 : ((x3_1.length : Int) != 0) = false := bne_eq_false_iff_eq.mpr c17
              clear c17
              by_cases c18 : x3_1.length < 17592186044416
              · rw [if_pos c18] at H
                have LMc18 := Aside0.mk c18
                clear c18
                obtain ⟨y227, hy227⟩ : ∃ y_ : List Int, y_ = (x3_1 ++ [1]) := ⟨_, rfl⟩
                replace H : (some y227) = some r := by first | (rw [hy227]; with_reducible exact H) | (have H2_ := (Option.bind_some _ _).symm.trans H; rw [hy227]; with_reducible exact H2_) | (have H2_ := (Option.bind_some _ _).symm.trans H; with_reducible exact H2_) | with_reducible exact H | (rw [hy227]; exact H) | exact H
                have Ny227 := Aside0.mk hy227
                clear hy227
                obtain rfl := Option.some.inj H
                obtain ⟨Ao19, co19, eo19⟩ := Kd.R_slice HO_3.out
                subst eo19
                go_wp2_with (first | ((with_reducible refine gate_builtin (b := .append) (xs := #[.tmp 35, .tmp 36]) rfl ?_); at_builtin; refine Kd.R_append (Kd.int .i64) (w0 := w) w.heap.size rfl (.tmp 35) (.tmp 36) 23 3 (.int .i64 0) 8 rfl Try.underlying23 info3 rfl (by decide) (by omega) (.slice Ao19 x3_1.length co19) x3_1 1 [.int .i64 1] (fun _ => True) (fun _ => False) rfl rfl ?aP (fun _ hk => hk.elim) ?aF ?aO ?aB ?aS ?aL ?_; (case aP => exact rfl); (case aB => exact (by repeat (first | (with_reducible first | exact HB.out | apply below_alloc | apply pw_below_drewN | apply below_drew1) | exact HB.out))); (case aF => exact (fun _ _ => trivial)); (case aO => exact (by (with_reducible repeat (first | apply Kd.R_alloc | apply Kd.R_drewN | apply Kd.R_drew)); exact HO_3.out)); (case aS => exact (below_size (by repeat (first | (with_reducible first | exact HB.out | apply below_alloc | apply pw_below_drewN | apply below_drew1) | exact HB.out)))); (case aL => have := LMc18.out; omega); intro v228 w20 ho hb hg hat; rw [← Ny227.out] at ho; have n0_ := Aside0.mk (hb); have n1_ := Aside0.mk (ho); clear HB; clear HO_3; have HB := n0_; have HO229 := n1_; clear n0_ n1_; clear ho hb hg hat))
                go_ret
                exact ⟨_, by first | rfl | (simp [errW_none, errW_some] <;> rfl) | (simp [*, errW_none, errW_some] <;> rfl), by (with_reducible repeat (first | apply Kd.R_alloc | apply Kd.R_drewN | apply Kd.R_drew)); exact HO229.out, by repeat (first | (with_reducible first | exact HB.out | apply below_alloc | apply pw_below_drewN | apply below_drew1) | exact HB.out)⟩
              · rw [if_neg c18] at H
                exact absurd H (by simp)
            · rw [if_neg c17] at H
              have c17b0 : ((x3_1.length : Int) == 0) = false := beq_eq_false_iff_ne.mpr c17
              have c17b1 : ((x3_1.length : Int) != 0) = true := bne_iff_ne.mpr c17
              have c17b2 : ¬ (x3_1 = []) := fun h_ => c17 (by rw [h_]; rfl)
              obtain rfl := Option.some.inj H
              obtain ⟨Ao21, co21, eo21⟩ := Kd.R_slice HO_3.out
              subst eo21
              go_wp2
              go_ret
              exact ⟨_, by first | rfl | (simp [errW_none, errW_some] <;> rfl) | (simp [*, errW_none, errW_some] <;> rfl), by (with_reducible repeat (first | apply Kd.R_alloc | apply Kd.R_drewN | apply Kd.R_drew)); exact HO_3.out, by repeat (first | (with_reducible first | exact HB.out | apply below_alloc | apply pw_below_drewN | apply below_drew1) | exact HB.out)⟩
end Go.Proofs.Ytpjobcnfjpbaeaa.PA

namespace Go.Proofs.Ytpjobcnfjpbaeaa.A
open Go.RowKit Go.Proofs.YtpjobcnfjpbaeaaW.PrintWords Go.Proofs.YtpjobcnfjpbaeaaW.PrintLast Go.Proofs.YtpjobcnfjpbaeaaW.PrintMore
open Go.Proofs.Ytpjobcnfjpbaeaa.PA Go.Proofs.Ytpjobcnfjpbaeaa.M
structure RoomsOK (r : List Int) : Prop where
  nights : 1 ≤ r.length ∧ r.length ≤ 60
  room : ∀ x ∈ r, 0 ≤ x ∧ x ≤ 8
theorem mod_f (x : Int) : turndownlaw08_mod.f x 9 = some (modV x 9) := (modV_bd (by omega) (by omega)).2.2
theorem snoc9 {out : List Int} {x : Int} (h : ∀ y ∈ out, 0 ≤ y ∧ y ≤ 8) (hx : 0 ≤ x ∧ x ≤ 8) : ∀ y ∈ out ++ [x], 0 ≤ y ∧ y ≤ 8 := by
  intro y hy
  rcases List.mem_append.1 hy with h1 | h1
  · exact h y h1
  · rw [List.mem_singleton.1 h1]; exact hx
theorem tamed_l0 (l : List Int) : ∀ d i (out : List Int), i + d = min l.length 60 → out.length = i → (∀ x ∈ out, 0 ≤ x ∧ x ≤ 8) → ∃ r, Ev (fun k => turndownlaw08_tamed.l0 k l out (i : Int)) r ∧ RoomsOK r := by
  intro d
  induction d with
  | zero =>
    intro i out hi hlen hx
    have hj : Ev (fun k => turndownlaw08_tamed.l0 k l out (i : Int)) (if (out.length : Int) = 0 then out ++ [1] else out) := by
      refine Ev.step (f := fun k => turndownlaw08_tamed.j1 k l out (i : Int) false) (fun k => ?_) (Ev.step (f := fun _ => some (if (out.length : Int) = 0 then out ++ [1] else out)) (fun k => ?_) (Ev.now _))
      · rw [turndownlaw08_tamed.l0]
        by_cases h : (i : Int) < (l.length : Int)
        · rw [if_pos h]
          have e : decide ((i : Int) < 60) = false := by simp only [decide_eq_false_iff_not]; omega
          rw [e]
        · rw [if_neg h]
      · rw [turndownlaw08_tamed.j1, if_neg (by simp)]
        by_cases h : (out.length : Int) = 0
        · rw [if_pos h, if_pos h, if_pos (by omega)]
        · rw [if_neg h, if_neg h]
    refine ⟨_, hj, ?_⟩
    by_cases h : (out.length : Int) = 0
    · rw [if_pos h]
      exact ⟨by rw [List.length_append, List.length_singleton]; omega, snoc9 hx (by omega)⟩
    · rw [if_neg h]
      exact ⟨by omega, hx⟩
  | succ d ih =>
    intro i out hi hlen hx
    obtain ⟨y, hy⟩ : ∃ y, y = if rd l (i : Int) < 0 then modV (rd l (i : Int)) 9 else if rd l (i : Int) > 8 then modV (rd l (i : Int)) 9 else rd l (i : Int) := ⟨_, rfl⟩
    have hb := modV_bd (x := rd l (i : Int)) (n := 9) (by omega) (by omega)
    have hyb : 0 ≤ y ∧ y ≤ 8 := by
      rw [hy]
      have := hb.1
      have := hb.2.1
      split
      · omega
      · split <;> omega
    obtain ⟨r, h1, h2⟩ := ih (i + 1) (out ++ [y]) (by omega) (by rw [List.length_append, List.length_singleton]; omega) (snoc9 hx hyb)
    refine ⟨r, ?_, h2⟩
    have hw := wrap_succ (show i < 61 by omega) (by omega)
    refine Ev.step (f := fun k => turndownlaw08_tamed.j1 k l out (i : Int) true) (fun k => ?_) (Ev.step (f := fun k => turndownlaw08_tamed.l0 k l (out ++ [y]) ((i + 1 : Nat) : Int)) (fun k => ?_) h1)
    · rw [turndownlaw08_tamed.l0, if_pos (by omega)]
      have e : decide ((i : Int) < 60) = true := by simp only [decide_eq_true_eq]; omega
      rw [e]
    · rw [turndownlaw08_tamed.j1, if_pos rfl, if_pos (by omega), if_pos (by omega), hw, hy]
      by_cases c1 : rd l (i : Int) < 0
      · rw [if_pos c1, if_pos c1, mod_f, Option.bind_some, if_pos (by omega)]
      · rw [if_neg c1, if_neg c1]
        by_cases c2 : rd l (i : Int) > 8
        · rw [if_pos c2, if_pos c2, mod_f, Option.bind_some, if_pos (by omega)]
        · rw [if_neg c2, if_neg c2, if_pos (by omega)]
theorem tamed_c (A : Option Addr) (c : Nat) (l : List Int) (w : World) (hr : Kd.C (Kd.int .i64) w A l.length l) (hc : l.length ≤ c) :
    ∃ r, RoomsOK r ∧ ∀ w', Below w.heap.size w w' → Calls Try.prog 23 #[.slice A l.length c] w' fun e w'' => ∃ v, e = .returned v ∧ Kd.R (Kd.int .i64) 3 w'' w'.heap.size (fun _ => True) v r ∧ Below w'.heap.size w' w'' := by
  obtain ⟨r, h1, h2⟩ := tamed_l0 l (min l.length 60) 0 [] (by omega) rfl (by simp)
  obtain ⟨k, hk⟩ := Ev.rounds h1
  exact ⟨r, h2, fun w' h => turndownlaw08_tamed.calls k A c l r w' (Kd.C_below hr h) hc hk⟩
theorem good_tame {r : List Int} (h : RoomsOK r) (l : List S47) {m : Nat} (hm : m ≤ 40) : Good ((l.take m).map (tame1 (r.length : Int))) r := by
  have hn := h.nights
  have key : ∀ x ∈ (l.take m).map (tame1 (r.length : Int)), 0 ≤ x.f0 ∧ x.f0 < x.f1 ∧ x.f1 ≤ (r.length : Int) ∧ 0 ≤ x.f2 ∧ x.f2 ≤ 1000000 := by
    intro x hx
    obtain ⟨y, _, rfl⟩ := List.mem_map.1 hx
    exact tame1_ok (by omega) (by omega) y
  refine ⟨by rw [List.length_map, List.length_take]; omega, by omega, h.room, fun x hx => ?_, fun x hx => ?_⟩
  · have := key x hx; omega
  · have := key x hx; omega
end Go.Proofs.Ytpjobcnfjpbaeaa.A

namespace Go.Proofs.Ytpjobcnfjpbaeaa.A
open Go.RowKit Go.Proofs.YtpjobcnfjpbaeaaW.PrintWords Go.Proofs.YtpjobcnfjpbaeaaW.PrintLast Go.Proofs.YtpjobcnfjpbaeaaW.PrintMore
open Go.Proofs.Ytpjobcnfjpbaeaa.PA Go.Proofs.Ytpjobcnfjpbaeaa.M
theorem ordF_rng {l : List S47} (h0 : 0 < l.length) : ∀ i, i ∈ ordF l → 0 ≤ i ∧ i < l.length := by
  obtain ⟨m, hm⟩ : ∃ m, l.length = m + 1 := ⟨l.length - 1, by omega⟩
  intro i hi
  rw [ordF_succ hm] at hi
  obtain ⟨j, _, rfl⟩ := List.mem_map.1 hi
  have := j.isLt
  omega
theorem good_are {l : List S47} {r : List Int} (hg : Good l r) : areB l = true := by
  have h := checkB_iff.2 hg
  unfold checkB at h
  simp only [Bool.and_eq_true] at h
  exact h.1.1
theorem assign_ok (A : Option Addr) (c : Nat) (l : List S47) (r : List Int) (w : World) (hr : Kd.C k47 w A l.length l) (hg : Good l r) (hl : l.length ≤ 20) :
    Calls Try.prog 31 #[.slice A l.length c] w fun e w' => ∃ v, e = .returned (.tuple #[v, .int .i64 (assignF l (ordF l)).1.length, .int .i64 0]) ∧ Kd.R (Kd.int .i64) 3 w' w.heap.size (fun _ => True) v (assignF l (ordF l)).2 ∧ Below w.heap.size w w' := by
  by_cases h0 : l.length = 0
  · obtain rfl : l = [] := List.eq_nil_of_length_eq_zero h0
    exact Assign_nil A c w hr
  · have h1 : 0 < l.length := by omega
    obtain ⟨ad, rfl, _⟩ := hr.2.2 h1
    exact Assign_yes ad c l (ordF l) w hr (good_are hg) h1 (sort_small l hl h1) (ordF_rng h1)
theorem assign_len (l : List S47) : (assignF l (ordF l)).2.length = l.length := by
  unfold assignF
  rw [(foldA_len (ordF l) _).1, List.length_replicate]
theorem ints_ev (xs : List Int) (hx : xs.length ≤ 1000) : ∀ d i, i + d = xs.length → Ev (fun k => turndownlaw08_ints.l0 k xs xs (i : Int)) true := by
  intro d
  induction d with
  | zero =>
    intro i hi
    refine Ev.step (f := fun _ => some true) (fun k => ?_) (Ev.now _)
    rw [turndownlaw08_ints.l0, if_neg (by omega)]
  | succ d ih =>
    intro i hi
    have hw := wrap_succ (show i < xs.length by omega) (by omega)
    refine Ev.step (fun k => ?_) (ih (i + 1) (by omega))
    rw [turndownlaw08_ints.l0, if_pos (by omega), if_pos (by omega), if_pos (by omega), if_pos rfl, hw]
theorem ints_same (A B : Option Addr) (c d : Nat) (xs : List Int) (w : World) (hx : Kd.C (Kd.int .i64) w A xs.length xs) (hy : Kd.C (Kd.int .i64) w B xs.length xs) (hc : xs.length ≤ c) (hd : xs.length ≤ d) (h : xs.length ≤ 1000) :
    Calls Try.prog 32 #[.slice A xs.length c, .slice B xs.length d] w fun e w' => e = .returned (.bool true) ∧ Below w.heap.size w w' := by
  obtain ⟨k, hk⟩ := (ints_ev xs h xs.length 0 (by omega)).rounds
  have hf : turndownlaw08_ints.f k xs xs = some true := by
    unfold turndownlaw08_ints.f
    rw [if_pos rfl]
    exact hk
  exact (turndownlaw08_ints.calls k A c xs B d xs true w hx hc hy hd hf).mono fun e w' h => ⟨h.1, by obtain ⟨n, rfl⟩ := h.2; exact (pw_below_drewN (Below.refl _ _) n)⟩
end Go.Proofs.Ytpjobcnfjpbaeaa.A

namespace Go.Proofs.Ytpjobcnfjpbaeaa.A
open Go.RowKit Go.Proofs.YtpjobcnfjpbaeaaW.PrintWords Go.Proofs.YtpjobcnfjpbaeaaW.PrintLast Go.Proofs.YtpjobcnfjpbaeaaW.PrintMore
open Go.Proofs.Ytpjobcnfjpbaeaa.PA Go.Proofs.Ytpjobcnfjpbaeaa.M
def Wr (w : World) (A : Option Addr) (n base : Nat) : Prop := 0 < n → ∃ g cs, A = some ⟨g, 0, none⟩ ∧ base ≤ g ∧ w.heap[g]? = some (.cells cs 3 (0, 0)) ∧ n ≤ cs.size
theorem Wr.of {w : World} {base : Nat} {ok : Nat → Prop} {A : Option Addr} {c : Nat} {xs : List Int} (h : Kd.R (Kd.int .i64) 3 w base ok (.slice A xs.length c) xs) : Wr w A xs.length base := by
  intro h0
  obtain ⟨_, inner, ho, _⟩ := h
  rcases ho.2 with ⟨hv, hn⟩ | ⟨g, cap, cur, hv, hb, hg, h1, h2, h3, h4⟩
  · omega
  · injection hv with e1 e2 e3
    refine ⟨g, cur, e1, hb, hg, ?_⟩
    have e4 : (Kd.int .i64).sz = 1 := rfl
    rw [e4] at h3
    omega
theorem Wr.set {w : World} {A : Option Addr} {n base : Nat} (h : Wr w A n base) {g t : Nat} {cs : Array Value} (hg : w.heap[g]? = some (.cells cs t (0, 0))) (j : Nat) (u : Value) : Wr (w.setCell ⟨g, j, none⟩ u) A n base := by
  intro h0
  obtain ⟨g', cs', e1, e2, e3, e4⟩ := h h0
  by_cases e : g' = g
  · subst e
    exact ⟨g', _, e1, e2, blk_set e3 j u, by simpa using e4⟩
  · exact ⟨g', cs', e1, e2, blk_far e3 e u, e4⟩
theorem Wr.below {w w' : World} {A : Option Addr} {n base : Nat} (h : Wr w A n base) (hB : Below w.heap.size w w') : Wr w' A n base := by
  intro h0
  obtain ⟨g, cs, e1, e2, e3, e4⟩ := h h0
  exact ⟨g, cs, e1, e2, (hB.block g (Array.getElem?_eq_some_iff.1 e3).1).trans e3, e4⟩
set_option maxRecDepth 100000 in
set_option maxHeartbeats 6400000 in
theorem own_walk (A : Option Addr) (c : Nat) (l : List S47) (A1 : Option Addr) (c1 : Nat) (r : List Int) (w : World) (hr : Kd.C k47 w A l.length l) (hc : l.length ≤ c)
    (_hw : ∀ x ∈ l, (Lit.int .i64 x.f0).wf = true ∧ (Lit.int .i64 x.f1).wf = true ∧ (Lit.int .i64 x.f2).wf = true) (hr1 : Kd.C (Kd.int .i64) w A1 r.length r) (hc1 : r.length ≤ c1) (_hw1 : ∀ x ∈ r, (Lit.int .i64 x).wf = true) :
    Calls Try.prog 8 #[.slice A l.length c, .slice A1 r.length c1] w fun e w' => e = .returned (.bool true) ∧ Below w.heap.size w w' := by
  obtain ⟨own, hown, htm⟩ := tamed_c A1 c1 r w hr1 hc1
  have hn := hown.nights
  obtain ⟨hn1, hn2⟩ := hn
  obtain ⟨al, hal⟩ : ∃ al, al = (l.take 15).map (tame1 (own.length : Int)) := ⟨_, rfl⟩
  have hg : Good al own := by rw [hal]; exact good_tame hown l (by omega)
  have hbl : al.length ≤ 15 := by rw [hal, List.length_map, List.length_take]; omega
  have htame : ∀ w', Below w.heap.size w w' → Calls Try.prog 24 #[.slice A l.length c, .int .i64 (own.length : Int), .int .i64 15] w' fun e w'' => ∃ v, e = .returned v ∧ Kd.R k47 47 w'' w'.heap.size (fun _ => True) v al ∧ Below w'.heap.size w' w'' := fun w' h => by rw [hal]; exact tame_c A c l own.length 15 w' (Kd.C_below hr h) hc (by omega) (by omega)
  have HTM := Lib.hid (htm _ (Below.refl _ _))
  have HTAME := Lib.hid htame
  have HG := Lib.hid hg
  have HOWN := Lib.hid hown
  clear htm hal htame hg hown hr hr1 _hw _hw1
  go_enter Try.func8, Try.ntmps8
  go_wp2_with fail
  refine HTM.out.mono ?_
  rintro e w1 ⟨v1, rfl, hR, hB⟩
  have hsw1 := hB.size
  obtain ⟨OA, oc, rfl, hoc, hCo⟩ := Kd.R_reads hR
  have HBw1 := Lib.hid hB
  have HOw1 := Lib.hid hCo
  clear hR hB hCo
  go_wp2_with fail
  refine (HTAME.out w1 HBw1.out).mono ?_
  rintro e w2 ⟨v2, rfl, hR, hB⟩
  obtain ⟨BA, bc, rfl, hbc, hCb⟩ := Kd.R_reads hR
  have HAw2 := Lib.hid hCb
  clear hR hCb
  have hsw2 := hB.size
  have HBw2 := Lib.hid (HBw1.out.trans (hB.mono (by omega)))
  have HOw2 := Lib.hid (Kd.C_below HOw1.out hB)
  clear hB
  go_wp2_with fail
  refine (bookings_c BA bc al w2 HAw2.out hbc).mono ?_
  rintro e w3 ⟨v3, rfl, hR, hB⟩
  rw [List.take_of_length_le (by omega)] at hR
  obtain ⟨WA, wc, rfl, hwc, hCw⟩ := Kd.R_reads hR
  have HWw3 := Lib.hid hCw
  clear hR hCw
  have hsw3 := hB.size
  have HBw3 := Lib.hid (HBw2.out.trans (hB.mono (by omega)))
  have HOw3 := Lib.hid (Kd.C_below HOw2.out hB)
  have HAw3 := Lib.hid (Kd.C_below HAw2.out hB)
  clear hB
  go_wp2_with fail
  refine (list_c OA oc own w3 HOw3.out hoc).mono ?_
  rintro e w4 ⟨v4, rfl, hR, hB⟩
  rw [List.take_of_length_le (by omega)] at hR
  obtain ⟨NA, nc, rfl, hnc, hCn⟩ := Kd.R_reads hR
  have HNw4 := Lib.hid hCn
  clear hR hCn
  have hsw4 := hB.size
  have HBw4 := Lib.hid (HBw3.out.trans (hB.mono (by omega)))
  have HOw4 := Lib.hid (Kd.C_below HOw3.out hB)
  have HAw4 := Lib.hid (Kd.C_below HAw3.out hB)
  have HWw4 := Lib.hid (Kd.C_below HWw3.out hB)
  clear hB
  obtain ⟨tk, pr, v, hrp, hrev, hopt, hv1, hv2, htk, hacc⟩ := Accept_yes BA bc al OA oc own w4 HAw4.out hbc HOw4.out HG.out
  have HACC := Lib.hid hacc
  have HOPT := Lib.hid hopt
  have HRP := Lib.hid hrp
  have hprl : pr.length = own.length := hrp.len
  have HPRL := Lib.hid hprl
  have hprb : pr.length ≤ 60 := by omega
  clear hacc hopt hrp hrev hprl
  go_wp2_with fail
  refine HACC.out.mono ?_
  rintro e w5 ⟨v5, v6, rfl, hO5, hO6, hO7, hB⟩
  obtain ⟨X1, y1, rfl⟩ := own_slice hO5
  obtain ⟨X2, y2, rfl⟩ := own_slice hO6
  have hR5 : Kd.R (Kd.int .i64) 3 w5 w4.heap.size (fun _ => True) (.slice X1 tk.length y1) tk := Kd.R_of_own hO5 (fun _ _ => trivial)
  have hR6 : Kd.R (Kd.int .i64) 3 w5 w4.heap.size (fun _ => True) (.slice X2 pr.length y2) pr := Kd.R_of_own hO6 (fun _ _ => trivial)
  have HR5 := Lib.hid hR5
  have HR6 := Lib.hid hR6
  clear hO5 hO6 hO7 hR5 hR6 HACC
  have HZ5 := Lib.hid hB
  have hsw5 := hB.size
  have HBw5 := Lib.hid (HBw4.out.trans (hB.mono (by omega)))
  have HOw5 := Lib.hid (Kd.C_below HOw4.out hB)
  have HAw5 := Lib.hid (Kd.C_below HAw4.out hB)
  have HWw5 := Lib.hid (Kd.C_below HWw4.out hB)
  have HNw5 := Lib.hid (Kd.C_below HNw4.out hB)
  clear hB
  go_upto_region 5 with fail
  obtain ⟨w6, hw6⟩ : ∃ w6, w6 = w5.alloc (Obj.cells #[Value.slice X1 tk.length y1, Value.slice X2 pr.length y2] 39) := ⟨_, rfl⟩
  rw [← hw6]
  have hB : Below w5.heap.size w5 w6 := by rw [hw6]; exact (Below.refl _ _).alloc (Nat.le_refl _) _
  have hsz6 : w6.heap.size = w5.heap.size + 1 := by rw [hw6]; simp
  have HX6 : Hid (w6.heap[w5.heap.size]? = some (.cells #[Value.slice X1 tk.length y1, Value.slice X2 pr.length y2] 39 (0, 0))) := Lib.hid (by rw [hw6]; exact heap_alloc_new _ _)
  have HR56 := Lib.hid (Kd.R_below HR5.out hB)
  have HR66 := Lib.hid (Kd.R_below HR6.out hB)
  clear hw6
  have hZ56 := hB
  have hsw6 := hB.size
  have HBw6 := Lib.hid (HBw5.out.trans (hB.mono (by omega)))
  have HOw6 := Lib.hid (Kd.C_below HOw5.out hB)
  have HAw6 := Lib.hid (Kd.C_below HAw5.out hB)
  have HWw6 := Lib.hid (Kd.C_below HWw5.out hB)
  have HNw6 := Lib.hid (Kd.C_below HNw5.out hB)
  clear hB
  go_wp2_with fail
  refine (assign_ok BA bc al own w6 HAw6.out HG.out (by omega)).mono ?_
  rintro e w7 ⟨v7, rfl, hR7, hB⟩
  have hasl := assign_len al
  obtain ⟨asg, hasg⟩ : ∃ asg, asg = (assignF al (ordF al)).2 := ⟨_, rfl⟩
  obtain ⟨na, hna⟩ : ∃ na, na = (assignF al (ordF al)).1.length := ⟨_, rfl⟩
  rw [← hasg] at hR7 hasl
  rw [← hna]
  obtain ⟨YA, yc, rfl, hyc, -⟩ := Kd.R_reads hR7
  obtain ⟨cb, hcb⟩ : ∃ cb, cb = w5.heap.size := ⟨_, rfl⟩
  have HX7 : Hid (w7.heap[cb]? = some (.cells #[Value.slice X1 tk.length y1, Value.slice X2 pr.length y2] 39 (0, 0))) := Lib.hid (by rw [hcb]; exact (hB.block _ (by omega)).trans HX6.out)
  have hQ1 : Wr w7 X1 tk.length w4.heap.size := (Wr.of HR56.out).below hB
  have hQ2 : Wr w7 X2 pr.length w4.heap.size := (Wr.of HR66.out).below hB
  have hQ3 : Wr w7 YA asg.length w4.heap.size := by
    intro h0
    obtain ⟨g, cs, e1, e2, e3, e4⟩ := Wr.of hR7 h0
    exact ⟨g, cs, e1, by omega, e3, e4⟩
  rw [hasl] at hQ3
  rw [← hcb]
  have HCBE := Lib.hid hcb
  have hcb7 : cb < w7.heap.size := by have := hB.size; omega
  clear hasg hna hR7 hcb HX6
  have hZ67 := hB
  have hsw7 := hB.size
  have HBw7 := Lib.hid (HBw6.out.trans (hB.mono (by omega)))
  have HOw7 := Lib.hid (Kd.C_below HOw6.out hB)
  have HAw7 := Lib.hid (Kd.C_below HAw6.out hB)
  have HWw7 := Lib.hid (Kd.C_below HWw6.out hB)
  have HNw7 := Lib.hid (Kd.C_below HNw6.out hB)
  clear hB
  have z0 : w7.cell? ⟨cb, 0, none⟩ = some (.slice X1 tk.length y1) := by simp [World.cell?, HX7.out]
  have z1 : w7.cell? ⟨cb, 1, none⟩ = some (.slice X2 pr.length y2) := by simp [World.cell?, HX7.out]
  clear hsz6 HR5 HR6 HR56 HR66
  have HQ1 := Lib.hid hQ1
  have HQ2 := Lib.hid hQ2
  have HQ3 := Lib.hid hQ3
  clear hQ1 hQ2 hQ3
  go_upto_region 7 with fail
  obtain ⟨w8, hw8⟩ : ∃ w8, w8 = w7.alloc (Obj.cells #[Value.slice X1 tk.length y1, Value.slice X2 pr.length y2, Value.slice YA al.length yc] 23) := ⟨_, rfl⟩
  rw [← hw8]
  have hB : Below w7.heap.size w7 w8 := by rw [hw8]; exact (Below.refl _ _).alloc (Nat.le_refl _) _
  obtain ⟨ab, hab⟩ : ∃ ab, ab = w7.heap.size := ⟨_, rfl⟩
  have HAB8 : Hid (w8.heap[ab]? = some (.cells #[Value.slice X1 tk.length y1, Value.slice X2 pr.length y2, Value.slice YA al.length yc] 23 (0, 0))) := Lib.hid (by rw [hw8, hab]; exact heap_alloc_new _ _)
  have HQ18 := Lib.hid (HQ1.out.below hB)
  have HQ28 := Lib.hid (HQ2.out.below hB)
  have HQ38 := Lib.hid (HQ3.out.below hB)
  have HZ8 : Hid (Below w4.heap.size w4 w8) := Lib.hid (HZ5.out.trans ((((hZ56).trans (hZ67.mono (by omega))).trans (hB.mono (by omega))).mono (by omega)))
  rw [← hab]
  clear hw8 hab hB z0 z1 HQ1 HQ2 HQ3 hZ56 hZ67
  go_wp2_with fail
  go_loopw [16] (fun v16 wr => ∃ (i : Nat), v16 = .int .i64 (i : Int) ∧ i ≤ 3 ∧ Hid (wr.heap[ab]? = some (.cells #[Value.slice X1 tk.length y1, Value.slice X2 pr.length y2, Value.slice YA al.length yc] 23 (0, 0))) ∧ Hid (Wr wr X1 tk.length w4.heap.size) ∧ Hid (Wr wr X2 pr.length w4.heap.size) ∧ Hid (Wr wr YA al.length w4.heap.size) ∧ Hid (Below w4.heap.size w4 wr)) (fun v16 _ => 3 - (intOf v16).toNat)
  case atStart => exact ⟨0, rfl, by omega, HAB8.out, HQ18.out, HQ28.out, HQ38.out, HZ8.out⟩
  case round =>
    rename World => wa
    obtain ⟨i, rfl, hi, HAB, HQ1, HQ2, HQ3, HZ⟩ := hrel
    by_cases hi3 : i < 3
    · have hi3' : (i : Int) < 3 := by omega
      rcases (show i = 0 ∨ i = 1 ∨ i = 2 by omega) with rfl | rfl | rfl
      · have y0 : wa.cell? ⟨ab, 0, none⟩ = some (.slice X1 tk.length y1) := by simp [World.cell?, HAB.out]
        go_wp2_with fail
        go_loopw [17] (fun v17 wr => ∃ (k : Nat), v17 = .int .i64 (k : Int) ∧ k ≤ tk.length ∧ Hid (wr.heap[ab]? = some (.cells #[Value.slice X1 tk.length y1, Value.slice X2 pr.length y2, Value.slice YA al.length yc] 23 (0, 0))) ∧ Hid (Wr wr X1 tk.length w4.heap.size) ∧ Hid (Wr wr X2 pr.length w4.heap.size) ∧ Hid (Wr wr YA al.length w4.heap.size) ∧ Hid (Below w4.heap.size w4 wr)) (fun v17 _ => tk.length - (intOf v17).toNat)
        case atStart => exact ⟨0, rfl, Nat.zero_le _, HAB, HQ1, HQ2, HQ3, HZ⟩
        case round =>
          rename World => wi
          clear y0
          clear HAB HQ1 HQ2 HQ3 HZ
          obtain ⟨k, rfl, hk, HAB, HQ1, HQ2, HQ3, HZ⟩ := hrel
          have y0 : wi.cell? ⟨ab, 0, none⟩ = some (.slice X1 tk.length y1) := by simp [World.cell?, HAB.out]
          by_cases hkn : k < tk.length
          · have hkn' : (k : Int) < (tk.length : Nat) := by omega
            obtain ⟨g, cs, rfl, hgb, hcs, hcn⟩ := HQ1.out (by omega)
            have hck : cs[k]? = some (cs[k]'(by omega)) := Array.getElem?_eq_getElem _
            obtain ⟨u, hu⟩ : ∃ u, cs[k]? = some u := ⟨_, hck⟩
            have z0 : wi.cell? ⟨g, k, none⟩ = some u := by simp [World.cell?, hcs, hu]
            have zf : wi.frozen? ⟨g, k, none⟩ = false := by simp [World.frozen?, hcs]
            have hne : ab ≠ g := fun h => by
              have h1 := HAB.out
              rw [h, hcs] at h1
              injection h1 with h1
              injection h1 with _ h2
              cases h2
            have HCS := Lib.hid hcs
            clear hcs hck hu
            go_wp2_with fail
            go_roundw
            case rel => exact ⟨k + 1, by go_num, by omega, blk_far HAB.out hne _, HQ1.out.set HCS.out k _, HQ2.out.set HCS.out k _, HQ3.out.set HCS.out k _, HZ.out.setCell (p := ⟨g, k, none⟩) hgb _⟩
            case measure => simp [intOf]; omega
          · have hkn' : ¬ (k : Int) < (tk.length : Nat) := by omega
            go_wp2_with fail
            go_roundw
            case rel => exact ⟨0 + 1, by go_num, by omega, HAB, HQ1, HQ2, HQ3, HZ⟩
            case measure => simp [intOf]
      · have y0 : wa.cell? ⟨ab, 1, none⟩ = some (.slice X2 pr.length y2) := by simp [World.cell?, HAB.out]
        go_wp2_with fail
        go_loopw [17] (fun v17 wr => ∃ (k : Nat), v17 = .int .i64 (k : Int) ∧ k ≤ pr.length ∧ Hid (wr.heap[ab]? = some (.cells #[Value.slice X1 tk.length y1, Value.slice X2 pr.length y2, Value.slice YA al.length yc] 23 (0, 0))) ∧ Hid (Wr wr X1 tk.length w4.heap.size) ∧ Hid (Wr wr X2 pr.length w4.heap.size) ∧ Hid (Wr wr YA al.length w4.heap.size) ∧ Hid (Below w4.heap.size w4 wr)) (fun v17 _ => pr.length - (intOf v17).toNat)
        case atStart => exact ⟨0, rfl, Nat.zero_le _, HAB, HQ1, HQ2, HQ3, HZ⟩
        case round =>
          rename World => wi
          clear y0
          clear HAB HQ1 HQ2 HQ3 HZ
          obtain ⟨k, rfl, hk, HAB, HQ1, HQ2, HQ3, HZ⟩ := hrel
          have y0 : wi.cell? ⟨ab, 1, none⟩ = some (.slice X2 pr.length y2) := by simp [World.cell?, HAB.out]
          by_cases hkn : k < pr.length
          · have hkn' : (k : Int) < (pr.length : Nat) := by omega
            obtain ⟨g, cs, rfl, hgb, hcs, hcn⟩ := HQ2.out (by omega)
            have hck : cs[k]? = some (cs[k]'(by omega)) := Array.getElem?_eq_getElem _
            obtain ⟨u, hu⟩ : ∃ u, cs[k]? = some u := ⟨_, hck⟩
            have z0 : wi.cell? ⟨g, k, none⟩ = some u := by simp [World.cell?, hcs, hu]
            have zf : wi.frozen? ⟨g, k, none⟩ = false := by simp [World.frozen?, hcs]
            have hne : ab ≠ g := fun h => by
              have h1 := HAB.out
              rw [h, hcs] at h1
              injection h1 with h1
              injection h1 with _ h2
              cases h2
            have HCS := Lib.hid hcs
            clear hcs hck hu
            go_wp2_with fail
            go_roundw
            case rel => exact ⟨k + 1, by go_num, by omega, blk_far HAB.out hne _, HQ1.out.set HCS.out k _, HQ2.out.set HCS.out k _, HQ3.out.set HCS.out k _, HZ.out.setCell (p := ⟨g, k, none⟩) hgb _⟩
            case measure => simp [intOf]; omega
          · have hkn' : ¬ (k : Int) < (pr.length : Nat) := by omega
            go_wp2_with fail
            go_roundw
            case rel => exact ⟨1 + 1, by go_num, by omega, HAB, HQ1, HQ2, HQ3, HZ⟩
            case measure => simp [intOf]
      · have y0 : wa.cell? ⟨ab, 2, none⟩ = some (.slice YA al.length yc) := by simp [World.cell?, HAB.out]
        go_wp2_with fail
        go_loopw [17] (fun v17 wr => ∃ (k : Nat), v17 = .int .i64 (k : Int) ∧ k ≤ al.length ∧ Hid (wr.heap[ab]? = some (.cells #[Value.slice X1 tk.length y1, Value.slice X2 pr.length y2, Value.slice YA al.length yc] 23 (0, 0))) ∧ Hid (Wr wr X1 tk.length w4.heap.size) ∧ Hid (Wr wr X2 pr.length w4.heap.size) ∧ Hid (Wr wr YA al.length w4.heap.size) ∧ Hid (Below w4.heap.size w4 wr)) (fun v17 _ => al.length - (intOf v17).toNat)
        case atStart => exact ⟨0, rfl, Nat.zero_le _, HAB, HQ1, HQ2, HQ3, HZ⟩
        case round =>
          rename World => wi
          clear y0
          clear HAB HQ1 HQ2 HQ3 HZ
          obtain ⟨k, rfl, hk, HAB, HQ1, HQ2, HQ3, HZ⟩ := hrel
          have y0 : wi.cell? ⟨ab, 2, none⟩ = some (.slice YA al.length yc) := by simp [World.cell?, HAB.out]
          by_cases hkn : k < al.length
          · have hkn' : (k : Int) < (al.length : Nat) := by omega
            obtain ⟨g, cs, rfl, hgb, hcs, hcn⟩ := HQ3.out (by omega)
            have hck : cs[k]? = some (cs[k]'(by omega)) := Array.getElem?_eq_getElem _
            obtain ⟨u, hu⟩ : ∃ u, cs[k]? = some u := ⟨_, hck⟩
            have z0 : wi.cell? ⟨g, k, none⟩ = some u := by simp [World.cell?, hcs, hu]
            have zf : wi.frozen? ⟨g, k, none⟩ = false := by simp [World.frozen?, hcs]
            have hne : ab ≠ g := fun h => by
              have h1 := HAB.out
              rw [h, hcs] at h1
              injection h1 with h1
              injection h1 with _ h2
              cases h2
            have HCS := Lib.hid hcs
            clear hcs hck hu
            go_wp2_with fail
            go_roundw
            case rel => exact ⟨k + 1, by go_num, by omega, blk_far HAB.out hne _, HQ1.out.set HCS.out k _, HQ2.out.set HCS.out k _, HQ3.out.set HCS.out k _, HZ.out.setCell (p := ⟨g, k, none⟩) hgb _⟩
            case measure => simp [intOf]; omega
          · have hkn' : ¬ (k : Int) < (al.length : Nat) := by omega
            go_wp2_with fail
            go_roundw
            case rel => exact ⟨2 + 1, by go_num, by omega, HAB, HQ1, HQ2, HQ3, HZ⟩
            case measure => simp [intOf]
    · obtain rfl : i = 3 := by omega
      clear HAB HQ1 HQ2 HQ3 HQ18 HQ28 HQ38 HAB8 HX7 HCBE
      have hB := HZ.out
      have hswa := hB.size
      have HBwa := Lib.hid (HBw4.out.trans (hB.mono (by omega)))
      have HOwa := Lib.hid (Kd.C_below HOw4.out hB)
      have HAwa := Lib.hid (Kd.C_below HAw4.out hB)
      have HWwa := Lib.hid (Kd.C_below HWw4.out hB)
      have HNwa := Lib.hid (Kd.C_below HNw4.out hB)
      clear hB
      obtain ⟨tk2, pr2, v', hrp, hrev, hopt, hv3, hv4, htk2, hacc⟩ := Accept_yes BA bc al OA oc own wa HAwa.out hbc HOwa.out HG.out
      obtain rfl : v' = v := hopt.uniq (inst_ok HG.out) HOPT.out
      have HACC := Lib.hid hacc
      have HRP2 := Lib.hid hrp
      clear hacc hopt hrp hrev
      go_wp2_with fail
      refine HACC.out.mono ?_
      rintro e w9 ⟨v5, v6, rfl, hO5, hO6, hO7, hB⟩
      obtain ⟨X3, y3, rfl⟩ := own_slice hO5
      obtain ⟨X4, y4, rfl⟩ := own_slice hO6
      have hR5 : Kd.R (Kd.int .i64) 3 w9 wa.heap.size (fun _ => True) (.slice X3 tk2.length y3) tk2 := Kd.R_of_own hO5 (fun _ _ => trivial)
      have hR6 : Kd.R (Kd.int .i64) 3 w9 wa.heap.size (fun _ => True) (.slice X4 pr2.length y4) pr2 := Kd.R_of_own hO6 (fun _ _ => trivial)
      obtain ⟨_, hy3, hC3⟩ := Kd.R_reads' hR5
      obtain ⟨_, hy4, hC4⟩ := Kd.R_reads' hR6
      have HTw9 := Lib.hid hC3
      have HPw9 := Lib.hid hC4
      clear hO5 hO6 hO7 hR5 hR6 HACC hC3 hC4
      have hsw9 := hB.size
      have HBw9 := Lib.hid (HBwa.out.trans (hB.mono (by omega)))
      have HOw9 := Lib.hid (Kd.C_below HOwa.out hB)
      have HAw9 := Lib.hid (Kd.C_below HAwa.out hB)
      have HWw9 := Lib.hid (Kd.C_below HWwa.out hB)
      have HNw9 := Lib.hid (Kd.C_below HNwa.out hB)
      clear hB
      go_upto_region 15 with fail
      obtain ⟨w10, hw10⟩ : ∃ w10, w10 = w9.alloc (Obj.cells #[Value.slice X3 tk2.length y3, Value.slice X4 pr2.length y4] 39) := ⟨_, rfl⟩
      rw [← hw10]
      have hB : Below w9.heap.size w9 w10 := by rw [hw10]; exact (Below.refl _ _).alloc (Nat.le_refl _) _
      obtain ⟨db, hdb⟩ : ∃ db, db = w9.heap.size := ⟨_, rfl⟩
      have HX10 : Hid (w10.heap[db]? = some (.cells #[Value.slice X3 tk2.length y3, Value.slice X4 pr2.length y4] 39 (0, 0))) := Lib.hid (by rw [hw10, hdb]; exact heap_alloc_new _ _)
      have hdb10 : db < w10.heap.size := by rw [hw10, hdb]; simp
      rw [← hdb]
      have HDB := Lib.hid hdb
      clear hw10 hdb
      have hsw10 := hB.size
      have HBw10 := Lib.hid (HBw9.out.trans (hB.mono (by omega)))
      have HOw10 := Lib.hid (Kd.C_below HOw9.out hB)
      have HAw10 := Lib.hid (Kd.C_below HAw9.out hB)
      have HWw10 := Lib.hid (Kd.C_below HWw9.out hB)
      have HNw10 := Lib.hid (Kd.C_below HNw9.out hB)
      have HTw10 := Lib.hid (Kd.C_below HTw9.out hB)
      have HPw10 := Lib.hid (Kd.C_below HPw9.out hB)
      clear hB
      go_wp2_with fail
      refine (ints_same OA NA oc nc own w10 HOw10.out HNw10.out hoc hnc (by omega)).mono ?_
      rintro e w11 ⟨rfl, hB⟩
      have HX11 : Hid (w11.heap[db]? = some (.cells #[Value.slice X3 tk2.length y3, Value.slice X4 pr2.length y4] 39 (0, 0))) := Lib.hid ((hB.block _ (by omega)).trans HX10.out)
      have hsw11 := hB.size
      have HBw11 := Lib.hid (HBw10.out.trans (hB.mono (by omega)))
      have HOw11 := Lib.hid (Kd.C_below HOw10.out hB)
      have HAw11 := Lib.hid (Kd.C_below HAw10.out hB)
      have HWw11 := Lib.hid (Kd.C_below HWw10.out hB)
      have HNw11 := Lib.hid (Kd.C_below HNw10.out hB)
      have HTw11 := Lib.hid (Kd.C_below HTw10.out hB)
      have HPw11 := Lib.hid (Kd.C_below HPw10.out hB)
      clear hB
      have z0 : w11.cell? ⟨db, 0, none⟩ = some (.slice X3 tk2.length y3) := by simp [World.cell?, HX11.out]
      have z1 : w11.cell? ⟨db, 1, none⟩ = some (.slice X4 pr2.length y4) := by simp [World.cell?, HX11.out]
      go_wp2_with fail
      refine (refRight_t WA wc al NA nc own X3 y3 tk2 X4 y4 pr2 w11 HWw11.out hwc HNw11.out hnc HTw11.out hy3 HPw11.out hy4 HG.out (by omega) HRP2.out).mono ?_
      rintro e w12 ⟨rfl, hB⟩
      clear z0 z1
      have hsw12 := hB.size
      have HBw12 := Lib.hid (HBw11.out.trans (hB.mono (by omega)))
      have HAw12 := Lib.hid (Kd.C_below HAw11.out hB)
      have HWw12 := Lib.hid (Kd.C_below HWw11.out hB)
      clear hB
      go_wp2_with fail
      go_loopw [21] (fun v21 wr => ∃ (i : Nat), v21 = .int .i64 (i : Int) ∧ i ≤ al.length ∧ Below w12.heap.size w12 wr) (fun v21 _ => al.length - (intOf v21).toNat)
      case atStart => exact ⟨0, rfl, Nat.zero_le _, Below.refl _ _⟩
      case round =>
        rename World => wl
        obtain ⟨i, rfl, hi, hB⟩ := hrel
        by_cases hlt : i < al.length
        · have hlt' : (i : Int) < al.length := by omega
          obtain ⟨ad, x, rfl, HX, x0, x1, x2⟩ := at_bk HAw12.out hB i hlt
          obtain ⟨ad2, x', rfl, HX', u0, u1, u2⟩ := at_bk HWw12.out hB i hlt
          obtain rfl : x = x' := by have h := HX.out; rw [HX'.out] at h; injection h with h; exact h.symm
          obtain ⟨f, t, p⟩ := x
          simp only at x0 x1 x2 u0 u1 u2
          have HBL := Lib.hid hB
          clear hB
          go_wp2_with fail
          go_quiet (fail)
          go_wp2_with fail
          go_roundw
          case rel => exact ⟨i + 1, by go_num, by omega, HBL.out.trans ((pw_below_drewN (Below.refl _ _) nq).mono HBL.out.size)⟩
          case measure => simp [intOf]; omega
        · obtain rfl : i = al.length := by omega
          have hswl := hB.size
          have HBwl := Lib.hid (HBw12.out.trans (hB.mono (by omega)))
          clear hB
          go_wp2_with fail
          refine (awake_c _).mono ?_
          rintro e w99 ⟨rfl, hB99⟩
          have HB99 := Lib.hid (HBwl.out.trans (hB99.mono (by omega)))
          clear hB99
          go_wp2_with fail
          go_ret
          exact ⟨rfl, HB99.out⟩
end Go.Proofs.Ytpjobcnfjpbaeaa.A

namespace Go.Proofs.Ytpjobcnfjpbaeaa.E
open Go.ChangeShapes Go.WideShapes Go.ChangeAt Go.RowKit Go.Deep
open Go.Proofs.YtpjobcnfjpbaeaaW.PrintWords Go.Proofs.YtpjobcnfjpbaeaaW.PrintLast Go.Proofs.YtpjobcnfjpbaeaaW.PrintMore
open Go.Proofs.Ytpjobcnfjpbaeaa.PA
variable {H : Type} {enc : TypeId × Value → H}
theorem open_int3 {W : World} {fuel : Nat} {cs : List Value} {x : DataW H × List MemPlace} (h : DataW.trod enc Try.prog W 0 (fun _ => true) true fuel 3 cs = some x) : ∃ n, cs = [.int .i64 n] ∧ x = (.lit (.int .i64 n), []) ∧ (Lit.int .i64 n).wf = true :=
  DataW.trod_int Try.underlying3 h
theorem len3 : ∀ {l : List Value}, l.length = 3 → ∃ a b c, l = [a, b, c]
  | [a, b, c], _ => ⟨a, b, c, rfl⟩
  | [], h => by simp at h
  | [_], h => by simp at h
  | [_, _], h => by simp at h
  | _ :: _ :: _ :: _ :: _, h => by simp at h
instance : Inhabited S47 := ⟨z47⟩
theorem open_bks {W : World} {a : Option Addr} {len cap : Nat} {d : DataW H} {p : List MemPlace} (h : DataW.Trod enc Try.prog W 0 (fun _ => true) true 22 (.slice a len cap) d p) :
    ∃ xs : List S47, xs.length = len ∧ len ≤ cap ∧ Kd.C k47 W a len xs ∧ ∀ x ∈ xs, (Lit.int .i64 x.f0).wf = true ∧ (Lit.int .i64 x.f1).wf = true ∧ (Lit.int .i64 x.f2).wf = true := by
  obtain ⟨fuel, hf⟩ := h
  have e3 : Try.prog.cellsOf 47 = 3 := by kernel_rfl
  have e1 : Try.prog.cellsOf 3 = 1 := by kernel_rfl
  rcases open_slice Try.underlying22 hf with ⟨hcs, _⟩ | ⟨x, l, c, m, n, D, Pl, hcs, _, hl, hm, hmm, _, hel⟩
  · simp [Value.cells] at hcs
    obtain ⟨rfl, rfl, rfl⟩ := hcs
    exact ⟨[], rfl, Nat.le_refl _, ⟨rfl, by omega, fun h => by omega⟩, fun x hx => by simp at hx⟩
  · simp [Value.cells] at hcs
    obtain ⟨rfl, rfl, rfl⟩ := hcs
    simp only [if_true] at hmm
    subst hmm
    have key : ∀ i, i < m → ∃ s : S47, (W.cell? (x.add (i * 3)) = some (.int .i64 s.f0) ∧ W.cell? (x.add (i * 3 + 1)) = some (.int .i64 s.f1) ∧ W.cell? (x.add (i * 3 + 2)) = some (.int .i64 s.f2)) ∧ ((Lit.int .i64 s.f0).wf = true ∧ (Lit.int .i64 s.f1).wf = true ∧ (Lit.int .i64 s.f2).wf = true) := by
      intro i hi
      obtain ⟨cs', h1, h2⟩ := hel i hi
      rw [e3] at h1
      obtain ⟨_, hlen, hcell⟩ := World.cells?_some h1
      obtain ⟨y0, y1, y2, q, _, _, g0, g1, g2⟩ := trod_struct3 Try.underlying47 h2
      obtain ⟨c0, c1, c2, rfl⟩ := len3 hlen
      obtain ⟨n0, q0, _, w0⟩ := open_int3 g0
      obtain ⟨n1, q1, _, w1⟩ := open_int3 g1
      obtain ⟨n2, q2, _, w2⟩ := open_int3 g2
      simp [e1] at q0 q1 q2
      subst q0 q1 q2
      refine ⟨⟨n0, n1, n2⟩, ⟨?_, ?_, ?_⟩, w0, w1, w2⟩
      · have := hcell 0 (by omega); rw [Go.Deep.add_add] at this; simpa using this
      · have := hcell 1 (by omega); rw [Go.Deep.add_add] at this; simpa using this
      · have := hcell 2 (by omega); rw [Go.Deep.add_add] at this; simpa using this
    obtain ⟨f, hfs⟩ := choose_lt (α := S47) key
    refine ⟨(List.range len).map f, by simp, hl, ⟨by simp, by unfold maxLen at hm; omega, fun _ => ⟨x, rfl, fun j p hp => ?_⟩⟩, fun s hs => ?_⟩
    · have hj : j < len := by have := (List.getElem?_eq_some_iff.1 hp).1; simpa using this
      simp [hj] at hp
      subst hp
      obtain ⟨⟨a0, a1, a2⟩, _⟩ := hfs j (by omega)
      refine ⟨[.int .i64 (f j).f0, .int .i64 (f j).f1, .int .i64 (f j).f2], rfl, k47_mk W (f j), fun i u hu => ?_⟩
      match i, hu with
      | 0, hu => simp at hu; subst hu; exact a0
      | 1, hu => simp at hu; subst hu; exact a1
      | 2, hu => simp at hu; subst hu; exact a2
      | i + 3, hu => simp at hu
    · simp only [List.mem_map, List.mem_range] at hs
      obtain ⟨i, hi, rfl⟩ := hs
      exact (hfs i (by omega)).2
theorem open_is {W : World} {a : Option Addr} {len cap : Nat} {d : DataW H} {p : List MemPlace} {fuel : Nat} (hf : DataW.trod enc Try.prog W 0 (fun _ => true) true fuel 23 [.slice a len cap] = some (d, p)) :
    ∃ xs : List Int, xs.length = len ∧ len ≤ cap ∧ Kd.C (Kd.int .i64) W a len xs ∧ ∀ x ∈ xs, (Lit.int .i64 x).wf = true := by
  rcases open_ints Try.underlying23 Try.underlying3 (by kernel_rfl) hf with ⟨hcs, _⟩ | ⟨x, l, c, zs, hcs, _, hl, hm, hz, _, hcell, hwz⟩
  · simp at hcs
    obtain ⟨rfl, rfl, rfl⟩ := hcs
    exact ⟨[], rfl, Nat.le_refl _, ⟨rfl, by omega, fun h => by omega⟩, fun x hx => by simp at hx⟩
  · simp at hcs
    obtain ⟨rfl, rfl, rfl⟩ := hcs
    simp only [if_true] at hz
    refine ⟨zs.take len, by rw [List.length_take]; omega, hl, ⟨by rw [List.length_take]; omega, by unfold maxLen at hm; omega, fun _ => ⟨x, rfl, fun j p hp => ?_⟩⟩, fun s hs => hwz s (List.mem_of_mem_take hs)⟩
    have hj : j < len := by have := (List.getElem?_eq_some_iff.1 hp).1; rw [List.length_take] at this; omega
    rw [List.getElem?_take_of_lt hj] at hp
    have h1 := hcell j (by omega)
    rw [List.getD_eq_getElem?_getD, hp] at h1
    refine ⟨[.int .i64 p], rfl, rfl, fun i u hu => ?_⟩
    match i, hu with
    | 0, hu => simp at hu; subst hu; show W.cell? (x.add (j * 1 + 0)) = _; rw [Nat.mul_one, Nat.add_zero]; simpa using h1
    | i + 1, hu => simp at hu
end Go.Proofs.Ytpjobcnfjpbaeaa.E

namespace Go.Proofs.Ytpjobcnfjpbaeaa.E
open Go.ChangeShapes Go.WideShapes Go.ChangeAt Go.RowKit Go.Deep
open Go.Proofs.YtpjobcnfjpbaeaaW.PrintWords Go.Proofs.YtpjobcnfjpbaeaaW.PrintLast Go.Proofs.YtpjobcnfjpbaeaaW.PrintMore
open Go.Proofs.Ytpjobcnfjpbaeaa.PA
variable {H : Type} {enc : TypeId × Value → H}
theorem own : ownKnob Try.prog.godebug = none := by kernel_rfl
theorem laidOut : laidOutB Try.prog = true := by kernel_rfl
end Go.Proofs.Ytpjobcnfjpbaeaa.E

namespace Go.Proofs.Ytpjobcnfjpbaeaa.roomsOwn
open Go.ChangeShapes Go.WideShapes Go.ChangeAt Go.RowKit
open Go.Proofs.Ytpjobcnfjpbaeaa.E
set_option maxRecDepth 100000 in
theorem lifted (os : Os) (started : os.Started) (H : Type) (enc : TypeId × Value → H) :
    ReturnsInHanded {} Try.checked os 8 .any (Rows.roomsOwnSpec.pre6 enc Try.prog Try.f8 Rows.roomsOwnRow.domain false) (Rows.roomsOwnSpec.post enc Try.prog Try.f8 false true false false) := by
  refine returnsInHanded_of_change_sized (C := Try.checked) own started (by kernel_rfl) Try.func8
    (ChangeSpec.witness6 (enc := enc) (C := Try.checked) false ⟨#[], #[.slice none 0 0, .slice none 0 0], []⟩ 8 (by kernel_rfl) (by kernel_rfl) (by kernel_rfl) (by kernel_rfl)) ?_
  intro W base args ds gs before hval0 hW hcnd hsz0 _
  have hval : ∀ (j : Nat) t v, Try.f8.params[j]? = some t → args[j]? = some v → Value.okWide Try.prog W .any base t v := hval0
  have hW' := hW
  obtain ⟨p, q, hA0, hV, rfl, hfz, hnd⟩ := hW
  have hA : DataW.TrodAll enc Try.prog W 0 (fun _ => true) true Try.f8.params.toList args.toList ds p := hA0
  rw [Try.params8] at hA hval
  obtain ⟨v0, vs0, d0, ds0, p0, q0, hargs, rfl, rfl, h0, r0⟩ := trodAll_cons hA
  obtain ⟨v1, vs1, d1, ds1, p1, q1, rfl, rfl, rfl, h1, r1⟩ := trodAll_cons r0
  obtain ⟨rfl, rfl, rfl⟩ := trodAll_nil r1
  obtain rfl : args = #[v0, v1] := by cases args; simp_all
  obtain ⟨rfl, rfl⟩ := trodVars_none hV
  have k0 := h0
  have lt0 : ∀ x ∈ p0, x.block < W.heap.size := by obtain ⟨m, hm⟩ := k0; exact DataW.trod_lt m _ _ _ hm
  obtain ⟨a0, len0, cap0, rfl⟩ := okWide_slice Try.underlying22 (hval 0 22 v0 rfl rfl)
  obtain ⟨x0, rfl, y0, z0, w0⟩ := open_bks h0
  have k1 := h1
  have lt1 : ∀ x ∈ p1, x.block < W.heap.size := by obtain ⟨m, hm⟩ := k1; exact DataW.trod_lt m _ _ _ hm
  obtain ⟨a1, len1, cap1, rfl⟩ := okWide_slice Try.underlying23 (hval 1 23 v1 rfl rfl)
  obtain ⟨x1, rfl, y1, z1, w1⟩ : ∃ xs : List Int, xs.length = len1 ∧ len1 ≤ cap1 ∧ Go.Proofs.YtpjobcnfjpbaeaaW.PrintWords.Kd.C (Go.Proofs.YtpjobcnfjpbaeaaW.PrintWords.Kd.int .i64) W a1 len1 xs ∧ ∀ x ∈ xs, (Lit.int .i64 x).wf = true := by obtain ⟨fuel, hf⟩ := h1; exact open_is hf
  clear hA0 hval0 hsz0
  refine (Go.Proofs.Ytpjobcnfjpbaeaa.A.own_walk a0 cap0 x0 a1 cap1 x1 W z0 y0 w0 z1 y1 w1).mono fun e W' ⟨he, bel⟩ => ?_
  subst he
  exact ⟨_, rfl, _, _, _, [], _, [], hW', trodAll_mk1 (shut_bool Try.underlying4 _), (trodAll_cons_mk (Below.trod laidOut (by kernel_rfl) (of_decide_eq_true (by kernel_rfl)) k0 bel lt0) (trodAll_cons_mk (Below.trod laidOut (by kernel_rfl) (of_decide_eq_true (by kernel_rfl)) k1 bel lt1) trodAll_mk0)), rfl, bel.frame _, fun h => by cases h⟩
theorem over : Rows.roomsOwnRow.holds Try.pinned (OpenSpec.ofChange Rows.roomsOwnSpec) :=
  OpenClaim.holds_of_wide 8 Try.f8 rfl rfl rfl rfl rfl rfl rfl ⟨rfl, rfl, rfl, rfl, rfl⟩ rfl rfl rfl rfl rfl (by kernel_rfl) Try.func8 (by kernel_rfl)
    (of_decide_eq_true (by kernel_rfl)) (by unfold Func.isWrapper; first | (rw [if_pos (by decide +kernel)]; kernel_rfl) | (rw [if_neg (by decide +kernel)]; exact ⟨rfl, rfl⟩))
    (fun os started H enc _ => lifted os started H enc)
theorem proved : Rows.RoomsOwnSaid := over
end Go.Proofs.Ytpjobcnfjpbaeaa.roomsOwn
namespace Go.Proofs.Ytpjobcnfjpbaeaa
theorem roomsOwn_holds : Rows.RoomsOwnSaid := roomsOwn.proved
end Go.Proofs.Ytpjobcnfjpbaeaa
