/- RoomsChecks: Check returns OK exactly for the correct choices -/
import Derived.Test.YtpjobcnfjpbaeaaZf2
set_option linter.unusedSimpArgs false
set_option linter.unusedVariables false

namespace Go.Proofs.Ytpjobcnfjpbaeaa.PA
open Go.RowKit Go.Proofs.YtpjobcnfjpbaeaaW.PrintWords Go.Proofs.YtpjobcnfjpbaeaaW.PrintLast Go.Proofs.YtpjobcnfjpbaeaaW.PrintMore
attribute [local go_sem] max2_int min2_int max_two min_two max_three min_three max_four min_four
set_option linter.unusedVariables false
set_option linter.unusedSimpArgs false
mutual
def turndownref08_shortest.l0 : Nat → List (S74) → Int → Int → Int → List Int → List Int → Int → Option (Int × (List (S74)))
  | 0, _, _, _, _, _, _, _ => none
  | k + 1, x0, x1, x2, x3, x10, x11, x12 => if x12 < x1 then (if 0 ≤ x12 then (if x12 < (x10.length : Int) then (if x12 < (x11.length : Int) then (turndownref08_shortest.l0 k x0 x1 x2 x3 (x10.set (x12 : Int).toNat 1152921504606846976) (x11.set (x12 : Int).toNat (-1)) (wrap64 (x12 + 1))) else (none)) else (none)) else (none)) else (if 0 ≤ x2 then (if x2 < (x10.length : Int) then (turndownref08_shortest.l1 k x0 x2 x3 (x10.set (x2 : Int).toNat 0) x11 true) else (none)) else (none))
def turndownref08_shortest.l1 : Nat → List (S74) → Int → Int → List Int → List Int → Bool → Option (Int × (List (S74)))
  | 0, _, _, _, _, _, _ => none
  | k + 1, x0, x2, x3, x10, x11, x13 => if x13 = true then (turndownref08_shortest.l2 k x0 x2 x3 x10 x11 false 0) else (if 0 ≤ x3 then (if x3 < (x10.length : Int) then (if (rd x10 x3) ≥ 1152921504606846976 then (some (1152921504606846976, ([] : List (S74)))) else (if ([] : List (S74)).length + x0.length < 4398046511104 then (turndownref08_shortest.l3 k x2 x3 x10 x11 (([] : List (S74)) ++ x0) x3) else (none))) else (none)) else (none))
def turndownref08_shortest.l2 : Nat → List (S74) → Int → Int → List Int → List Int → Bool → Int → Option (Int × (List (S74)))
  | 0, _, _, _, _, _, _, _ => none
  | k + 1, x0, x2, x3, x10, x11, x13, x14 => if x14 < (x0.length : Int) then (if 0 ≤ x14 then (if ((rd_T74 x0 x14).f2) > 0 then (if 0 ≤ ((rd_T74 x0 x14).f0) then (if ((rd_T74 x0 x14).f0) < (x10.length : Int) then (if (rd x10 ((rd_T74 x0 x14).f0)) < 1152921504606846976 then (if 0 ≤ ((rd_T74 x0 x14).f1) then (if ((rd_T74 x0 x14).f1) < (x10.length : Int) then (if (wrap64 ((rd x10 ((rd_T74 x0 x14).f0)) + ((rd_T74 x0 x14).f3))) < (rd x10 ((rd_T74 x0 x14).f1)) then (if ((rd_T74 x0 x14).f1) < (x11.length : Int) then (turndownref08_shortest.l2 k x0 x2 x3 (x10.set (((rd_T74 x0 x14).f1) : Int).toNat (wrap64 ((rd x10 ((rd_T74 x0 x14).f0)) + ((rd_T74 x0 x14).f3)))) (x11.set (((rd_T74 x0 x14).f1) : Int).toNat x14) true (wrap64 (x14 + 1))) else (none)) else (turndownref08_shortest.l2 k x0 x2 x3 x10 x11 x13 (wrap64 (x14 + 1)))) else (none)) else (none)) else (turndownref08_shortest.l2 k x0 x2 x3 x10 x11 x13 (wrap64 (x14 + 1)))) else (none)) else (none)) else (turndownref08_shortest.l2 k x0 x2 x3 x10 x11 x13 (wrap64 (x14 + 1)))) else (none)) else (turndownref08_shortest.l1 k x0 x2 x3 x10 x11 x13)
def turndownref08_shortest.l3 : Nat → Int → Int → List Int → List Int → List (S74) → Int → Option (Int × (List (S74)))
  | 0, _, _, _, _, _, _ => none
  | k + 1, x2, x3, x10, x11, x16, x17 => if x17 = x2 then (if 0 ≤ x3 then (if x3 < (x10.length : Int) then (some (rd x10 x3, x16)) else (none)) else (none)) else (if 0 ≤ x17 then (if x17 < (x11.length : Int) then (if 0 ≤ (rd x11 x17) then (if (rd x11 x17) < (x16.length : Int) then ((some (x16.set ((rd x11 x17) : Int).toNat (⟨(rd_T74 x16 (rd x11 x17)).f0, (rd_T74 x16 (rd x11 x17)).f1, wrap64 (((rd_T74 x16 (rd x11 x17)).f2) - 1), (rd_T74 x16 (rd x11 x17)).f3⟩ : S74) : List (S74))).bind fun y194 => (if 0 ≤ (wrap64 ((wrap64 ((rd x11 x17) + 1)) - (wrap64 (2 * (Int.tmod (rd x11 x17) 2))))) then (if (wrap64 ((wrap64 ((rd x11 x17) + 1)) - (wrap64 (2 * (Int.tmod (rd x11 x17) 2))))) < (x16.length : Int) then ((some (y194.set ((wrap64 ((wrap64 ((rd x11 x17) + 1)) - (wrap64 (2 * (Int.tmod (rd x11 x17) 2))))) : Int).toNat (⟨(rd_T74 y194 (wrap64 ((wrap64 ((rd x11 x17) + 1)) - (wrap64 (2 * (Int.tmod (rd x11 x17) 2)))))).f0, (rd_T74 y194 (wrap64 ((wrap64 ((rd x11 x17) + 1)) - (wrap64 (2 * (Int.tmod (rd x11 x17) 2)))))).f1, wrap64 (((rd_T74 y194 (wrap64 ((wrap64 ((rd x11 x17) + 1)) - (wrap64 (2 * (Int.tmod (rd x11 x17) 2)))))).f2) + 1), (rd_T74 y194 (wrap64 ((wrap64 ((rd x11 x17) + 1)) - (wrap64 (2 * (Int.tmod (rd x11 x17) 2)))))).f3⟩ : S74) : List (S74))).bind fun y196 => (turndownref08_shortest.l3 k x2 x3 x10 x11 y196 ((rd_T74 y196 (rd x11 x17)).f0))) else (none)) else (none))) else (none)) else (none)) else (none)) else (none))
end
def turndownref08_shortest.f (k : Nat) (l0 : List (S74)) (a1 : Int) (a2 : Int) (a3 : Int) : Option (Int × (List (S74))) := if 0 ≤ a1 then (if (a1 : Int).toNat ≤ 35184372088832 then (turndownref08_shortest.l0 k l0 a1 a2 a3 (List.replicate (a1 : Int).toNat 0) (List.replicate (a1 : Int).toNat 0) 0) else (none)) else (none)
theorem turndownref08_shortest.mono_l : ∀ k, (∀ y0 y1 y2 y3 y4 y5 y6, LeO (turndownref08_shortest.l0 k y0 y1 y2 y3 y4 y5 y6) (turndownref08_shortest.l0 (k + 1) y0 y1 y2 y3 y4 y5 y6)) ∧ (∀ y0 y1 y2 y3 y4 y5, LeO (turndownref08_shortest.l1 k y0 y1 y2 y3 y4 y5) (turndownref08_shortest.l1 (k + 1) y0 y1 y2 y3 y4 y5)) ∧ (∀ y0 y1 y2 y3 y4 y5 y6, LeO (turndownref08_shortest.l2 k y0 y1 y2 y3 y4 y5 y6) (turndownref08_shortest.l2 (k + 1) y0 y1 y2 y3 y4 y5 y6)) ∧ (∀ y0 y1 y2 y3 y4 y5, LeO (turndownref08_shortest.l3 k y0 y1 y2 y3 y4 y5) (turndownref08_shortest.l3 (k + 1) y0 y1 y2 y3 y4 y5))
  | 0 => ⟨fun _ _ _ _ _ _ _ r h => by simp [turndownref08_shortest.l0] at h, fun _ _ _ _ _ _ r h => by simp [turndownref08_shortest.l1] at h, fun _ _ _ _ _ _ _ r h => by simp [turndownref08_shortest.l2] at h, fun _ _ _ _ _ _ r h => by simp [turndownref08_shortest.l3] at h⟩
  | k + 1 => by
    obtain ⟨ih0, ih1, ih2, ih3⟩ := turndownref08_shortest.mono_l k
    refine ⟨?_, ?_, ?_, ?_⟩
    · intro y0 y1 y2 y3 y4 y5 y6
      unfold turndownref08_shortest.l0
      repeat' first
      | (with_reducible exact ih0 _ _ _ _ _ _ _)
      | (with_reducible exact ih1 _ _ _ _ _ _)
      | (with_reducible exact ih2 _ _ _ _ _ _ _)
      | (with_reducible exact ih3 _ _ _ _ _ _)
      | (with_reducible exact LeO.refl _)
      | (with_reducible exact LeO.none _)
      | (with_reducible refine LeO.ite ?_ ?_)
      | (with_reducible refine LeO.bind ?_ (fun _ => ?_))
      | exact ih0 _ _ _ _ _ _ _
      | exact ih1 _ _ _ _ _ _
      | exact ih2 _ _ _ _ _ _ _
      | exact ih3 _ _ _ _ _ _
      | exact LeO.none _
      | refine LeO.ite ?_ ?_
      | refine LeO.bind ?_ (fun _ => ?_)
    · intro y0 y1 y2 y3 y4 y5
      unfold turndownref08_shortest.l1
      repeat' first
      | (with_reducible exact ih0 _ _ _ _ _ _ _)
      | (with_reducible exact ih1 _ _ _ _ _ _)
      | (with_reducible exact ih2 _ _ _ _ _ _ _)
      | (with_reducible exact ih3 _ _ _ _ _ _)
      | (with_reducible exact LeO.refl _)
      | (with_reducible exact LeO.none _)
      | (with_reducible refine LeO.ite ?_ ?_)
      | (with_reducible refine LeO.bind ?_ (fun _ => ?_))
      | exact ih0 _ _ _ _ _ _ _
      | exact ih1 _ _ _ _ _ _
      | exact ih2 _ _ _ _ _ _ _
      | exact ih3 _ _ _ _ _ _
      | exact LeO.none _
      | refine LeO.ite ?_ ?_
      | refine LeO.bind ?_ (fun _ => ?_)
    · intro y0 y1 y2 y3 y4 y5 y6
      unfold turndownref08_shortest.l2
      repeat' first
      | (with_reducible exact ih0 _ _ _ _ _ _ _)
      | (with_reducible exact ih1 _ _ _ _ _ _)
      | (with_reducible exact ih2 _ _ _ _ _ _ _)
      | (with_reducible exact ih3 _ _ _ _ _ _)
      | (with_reducible exact LeO.refl _)
      | (with_reducible exact LeO.none _)
      | (with_reducible refine LeO.ite ?_ ?_)
      | (with_reducible refine LeO.bind ?_ (fun _ => ?_))
      | exact ih0 _ _ _ _ _ _ _
      | exact ih1 _ _ _ _ _ _
      | exact ih2 _ _ _ _ _ _ _
      | exact ih3 _ _ _ _ _ _
      | exact LeO.none _
      | refine LeO.ite ?_ ?_
      | refine LeO.bind ?_ (fun _ => ?_)
    · intro y0 y1 y2 y3 y4 y5
      unfold turndownref08_shortest.l3
      repeat' first
      | (with_reducible exact ih0 _ _ _ _ _ _ _)
      | (with_reducible exact ih1 _ _ _ _ _ _)
      | (with_reducible exact ih2 _ _ _ _ _ _ _)
      | (with_reducible exact ih3 _ _ _ _ _ _)
      | (with_reducible exact LeO.refl _)
      | (with_reducible exact LeO.none _)
      | (with_reducible refine LeO.ite ?_ ?_)
      | (with_reducible refine LeO.bind ?_ (fun _ => ?_))
      | exact ih0 _ _ _ _ _ _ _
      | exact ih1 _ _ _ _ _ _
      | exact ih2 _ _ _ _ _ _ _
      | exact ih3 _ _ _ _ _ _
      | exact LeO.none _
      | refine LeO.ite ?_ ?_
      | refine LeO.bind ?_ (fun _ => ?_)
theorem turndownref08_shortest.mono : ∀ a0 a1 a2 a3 k, LeO (turndownref08_shortest.f k a0 a1 a2 a3) (turndownref08_shortest.f (k + 1) a0 a1 a2 a3) := by
  intro a0 a1 a2 a3 k
  obtain ⟨ih0, ih1, ih2, ih3⟩ := turndownref08_shortest.mono_l k
  unfold turndownref08_shortest.f
  repeat' first
      | (with_reducible exact ih0 _ _ _ _ _ _ _)
      | (with_reducible exact ih1 _ _ _ _ _ _)
      | (with_reducible exact ih2 _ _ _ _ _ _ _)
      | (with_reducible exact ih3 _ _ _ _ _ _)
      | (with_reducible exact LeO.refl _)
      | (with_reducible exact LeO.none _)
      | (with_reducible refine LeO.ite ?_ ?_)
      | (with_reducible refine LeO.bind ?_ (fun _ => ?_))
      | exact ih0 _ _ _ _ _ _ _
      | exact ih1 _ _ _ _ _ _
      | exact ih2 _ _ _ _ _ _ _
      | exact ih3 _ _ _ _ _ _
      | exact LeO.none _
      | refine LeO.ite ?_ ?_
      | refine LeO.bind ?_ (fun _ => ?_)
def turndownref08_shortest.T16 : Bool × List (List Nat × List Nat) := (true, [([], []), ([0], [0]), ([1], [1]), ([2], [2]), ([3], [3]), ([3], [3]), ([5, 3], [3, 5]), ([4, 6, 3], [3, 4, 6]), ([7, 3], [3, 7]), ([8, 3], [3, 8]), ([3, 9], [3, 9]), ([10, 3], [10]), ([11], [11]), ([11], [11]), ([13, 11], [11, 13]), ([12, 14, 11], [11, 12, 14]), ([15, 11], [11, 15]), ([11], [11]), ([17, 11], [11, 17]), ([16, 18, 11], [11, 16, 18]), ([11], [11]), ([11], [11]), ([21, 11], [11, 21]), ([20, 22, 11], [11, 20, 22]), ([23, 11], [11, 23]), ([19, 24, 11], [11, 19, 24]), ([11, 25], [11, 25])])
def turndownref08_shortest.B16 : List Nat := [0, 1, 3, 7, 15, 15, 47, 127, 255, 511, 1023, 2047, 4095, 4095, 12287, 32767, 65535, 4095, 135167, 524287, 4095, 4095, 2101247, 7344127, 15732735, 33554431, 67108863]
theorem turndownref08_shortest.tab16 : rtab .any (opsOf Try.f46 16) = turndownref08_shortest.T16 := by kernel_rfl
theorem turndownref08_shortest.bits16 : waitsOk turndownref08_shortest.T16.2 turndownref08_shortest.B16 = true := by kernel_rfl
def turndownref08_shortest.T17 : Bool × List (List Nat × List Nat) := (true, [([], []), ([], []), ([1], [1]), ([], []), ([], []), ([4], [4]), ([3, 5], [3, 5]), ([6], [6]), ([], []), ([8], [8]), ([7, 9], [7, 9]), ([0, 2, 0, 1, 2, 3, 4, 5, 6, 7, 8, 9, 10], [0, 2]), ([11, 10, 0, 1, 2, 3, 4, 5, 6, 7, 8, 9, 10], [10, 11])])
def turndownref08_shortest.B17 : List Nat := [0, 0, 2, 0, 0, 16, 56, 120, 0, 256, 1016, 2047, 4095]
theorem turndownref08_shortest.tab17 : rtab .any (opsOf Try.f46 17) = turndownref08_shortest.T17 := by kernel_rfl
theorem turndownref08_shortest.bits17 : waitsOk turndownref08_shortest.T17.2 turndownref08_shortest.B17 = true := by kernel_rfl
set_option maxHeartbeats 8000000 in
set_option maxRecDepth 100000 in
theorem turndownref08_shortest.calls (k : Nat) (A0 : Option Addr) (c0 : Nat) (l0 : List (S74)) (a1 : Int) (a2 : Int) (a3 : Int) (r1 : Int) (r2 : List (S74)) (w : World) (hr0 : Kd.C k74 w A0 l0.length l0) (hc0 : l0.length ≤ c0) (h : turndownref08_shortest.f k l0 a1 a2 a3 = some (r1, r2)) :
    Calls Try.prog 46 #[.slice A0 l0.length c0, .int .i64 a1, .int .i64 a2, .int .i64 a3] w fun e w' => ∃ v1_ : Value, e = .returned (.tuple #[.int .i64 r1, v1_]) ∧ Kd.R k74 74 w' w.heap.size (fun _ => True) v1_ r2 ∧ Below w.heap.size w w' := by
  have hu74 := Try.underlying74
  have HR0 := Aside0.mk hr0
  have HC0 := Aside0.mk hc0
  clear hr0 hc0
  have HB := Aside0.mk (Below.refl w.heap.size w)
  have H : (if 0 ≤ a1 then (if (a1 : Int).toNat ≤ 35184372088832 then (turndownref08_shortest.l0 k l0 a1 a2 a3 (List.replicate (a1 : Int).toNat 0) (List.replicate (a1 : Int).toNat 0) 0) else (none)) else (none)) = some (r1, r2) := h
  clear h
  by_cases c5 : 0 ≤ a1
  · rw [if_pos c5] at H
    have c5b0 := eq_true c5
    have c5b1 : decide (0 ≤ a1) = true := decide_eq_true c5
    clear c5
    by_cases c6 : (a1 : Int).toNat ≤ 35184372088832
    · rw [if_pos c6] at H
      have c6b0 := eq_true c6
      have c6b1 : decide ((a1 : Int).toNat ≤ 35184372088832) = true := decide_eq_true c6
      clear c6
      obtain ⟨y170, hy170⟩ : ∃ y_ : List Int, y_ = (List.replicate (a1 : Int).toNat 0) := ⟨_, rfl⟩
      replace H : (turndownref08_shortest.l0 k l0 a1 a2 a3 y170 (List.replicate (a1 : Int).toNat 0) 0) = some (r1, r2) := by first | (rw [hy170]; with_reducible exact H) | (have H2_ := (Option.bind_some _ _).symm.trans H; rw [hy170]; with_reducible exact H2_) | (have H2_ := (Option.bind_some _ _).symm.trans H; with_reducible exact H2_) | with_reducible exact H | (rw [hy170]; exact H) | exact H
      have Ny170 := Aside0.mk hy170
      clear hy170
      obtain ⟨y173, hy173⟩ : ∃ y_ : List Int, y_ = (List.replicate (a1 : Int).toNat 0) := ⟨_, rfl⟩
      replace H : (turndownref08_shortest.l0 k l0 a1 a2 a3 y170 y173 0) = some (r1, r2) := by first | (rw [hy173]; with_reducible exact H) | (have H2_ := (Option.bind_some _ _).symm.trans H; rw [hy173]; with_reducible exact H2_) | (have H2_ := (Option.bind_some _ _).symm.trans H; with_reducible exact H2_) | with_reducible exact H | (rw [hy173]; exact H) | exact H
      have Ny173 := Aside0.mk hy173
      clear hy173
      have H' := Aside0.mk H
      clear H
      go_enter Try.func46, Try.ntmps46
      go_wp2_with (first | ((with_reducible refine gate_dst (N := 21) rfl ?_); refine Kd.R_make (Kd.int .i64) _ 3 rfl (N := 21) rfl 23 _ _ rfl a1 rfl rfl Try.underlying23 (.int .i64 0) 8 info3 rfl (by decide) (by omega) 0 (ok := fun _ => True) (okp := fun _ => True) rfl (fun _ hk => hk) trivial (of_decide_eq_true (by first | (with_reducible assumption) | assumption)) (Nat.le_trans (Nat.mul_le_mul_right _ (of_decide_eq_true (by first | (with_reducible assumption) | assumption) : a1.toNat ≤ 35184372088832)) (by omega)) (Below.refl _ _) (Nat.le_refl _) ?_; intro v171 w7 ho8 hb hg_ hnew_; clear hg_ hnew_; (first | rw [← Ny170.out] at ho8 | (simp only [Int.reduceToNat] at ho8; rw [← Ny170.out] at ho8)); have n0_ := Aside0.mk (Kd.R_lower ho8 (below_size (by repeat (first | (with_reducible first | exact HB.out | apply below_alloc | apply pw_below_drewN | apply below_drew1) | exact HB.out)))); have n1_ := Aside0.mk (below_step (by repeat (first | (with_reducible first | exact HB.out | apply below_alloc | apply pw_below_drewN | apply below_drew1) | exact HB.out)) hb); clear HB; have HO172 := n0_; have HB := n1_; clear n0_ n1_; clear hb ho8) | ((with_reducible refine gate_dst (N := 23) rfl ?_); refine Kd.R_make (Kd.int .i64) _ 3 rfl (N := 23) rfl 23 _ _ rfl a1 rfl rfl Try.underlying23 (.int .i64 0) 8 info3 rfl (by decide) (by omega) 0 (ok := fun _ => True) (okp := fun _ => True) rfl (fun _ hk => hk) trivial (of_decide_eq_true (by first | (with_reducible assumption) | assumption)) (Nat.le_trans (Nat.mul_le_mul_right _ (of_decide_eq_true (by first | (with_reducible assumption) | assumption) : a1.toNat ≤ 35184372088832)) (by omega)) (Below.refl _ _) (Nat.le_refl _) ?_; intro v174 w9 ho10 hb hg_ hnew_; clear hg_ hnew_; (first | rw [← Ny173.out] at ho10 | (simp only [Int.reduceToNat] at ho10; rw [← Ny173.out] at ho10)); have n0_ := Aside0.mk (Kd.R_elder' (by (with_reducible repeat (first | apply Kd.R_alloc | apply Kd.R_drewN | apply Kd.R_drew)); exact HO172.out) (Kd.R_base ho10) hb); have n1_ := Aside0.mk (Kd.R_lower (Kd.R_new' ho10 (Kd.R_lt (by (with_reducible repeat (first | apply Kd.R_alloc | apply Kd.R_drewN | apply Kd.R_drew)); exact HO172.out))) (below_size (by repeat (first | (with_reducible first | exact HB.out | apply below_alloc | apply pw_below_drewN | apply below_drew1) | exact HB.out)))); have n2_ := Aside0.mk (below_step (by repeat (first | (with_reducible first | exact HB.out | apply below_alloc | apply pw_below_drewN | apply below_drew1) | exact HB.out)) hb); clear HO172; clear HB; have HO172 := n0_; have HO175 := n1_; have HB := n2_; clear n0_ n1_ n2_; clear hb ho10))
      go_loopg [12] k (fun kq v12 w' => ∃ (x10_1 : List Int) (x11_1 : List Int) (x12_1 : Int), v12 = .int .i64 x12_1 ∧ Aside0 (turndownref08_shortest.l0 kq l0 a1 a2 a3 x10_1 x11_1 x12_1 = some (r1, r2)) ∧ Aside0 (kq ≤ k) ∧ Aside0 (Kd.R (Kd.int .i64) 3 w' w.heap.size (fun k_ => some k_ ≠ (v174 : Value).ownBlock) v171 x10_1) ∧ Aside0 (Kd.R (Kd.int .i64) 3 w' w.heap.size (fun k_ => some k_ ≠ (v171 : Value).ownBlock) v174 x11_1) ∧ Aside0 (Below w.heap.size w w'))
      case atStart => exact ⟨(y170), (y173), (0), (by first | rfl | (simp; done) | (simp [*]; done)), H', ⟨Nat.le_refl _⟩, ⟨by (with_reducible repeat (first | apply Kd.R_alloc | apply Kd.R_drewN | apply Kd.R_drew)); exact Kd.R_mono HO172.out (fun _ hk => hk.2)⟩, ⟨by (with_reducible repeat (first | apply Kd.R_alloc | apply Kd.R_drewN | apply Kd.R_drew)); exact Kd.R_mono HO175.out (fun _ hk => hk.2)⟩, ⟨by repeat (first | (with_reducible first | exact HB.out | apply below_alloc | apply pw_below_drewN | apply below_drew1) | exact HB.out)⟩⟩
      case round =>
        clear H'
        try clear p2
        try clear c4
        try clear c5
        try clear c5b0
        try clear c5b1
        try clear c6
        try clear c6b0
        try clear c6b1
        obtain ⟨x10_1, x11_1, x12_1, rfl, HA, HK1, HO_10, HO_11, HB⟩ := hrel
        cases gk with
        | zero => exact absurd HA.out (by simp [turndownref08_shortest.l0])
        | succ k1 =>
          have H := HA.out
          clear HA
          simp only [turndownref08_shortest.l0] at H
          by_cases c11 : x12_1 < a1
          · rw [if_pos c11] at H
            have c11b0 : decide (x12_1 < a1) = true := decide_eq_true c11
            clear c11
            by_cases c12 : 0 ≤ x12_1
            · rw [if_pos c12] at H
              have c12b0 : decide (0 ≤ x12_1) = true := decide_eq_true c12
              clear c12
              by_cases c13 : x12_1 < (x10_1.length : Int)
              · rw [if_pos c13] at H
                have c13b0 : decide (x12_1 < (x10_1.length : Int)) = true := decide_eq_true c13
                clear c13
                obtain ⟨y176, hy176⟩ : ∃ y_ : List Int, y_ = (x10_1.set (x12_1 : Int).toNat 1152921504606846976) := ⟨_, rfl⟩
                replace H : (if x12_1 < (x11_1.length : Int) then (turndownref08_shortest.l0 k1 l0 a1 a2 a3 y176 (x11_1.set (x12_1 : Int).toNat (-1)) (wrap64 (x12_1 + 1))) else (none)) = some (r1, r2) := by first | (rw [hy176]; with_reducible exact H) | (have H2_ := (Option.bind_some _ _).symm.trans H; rw [hy176]; with_reducible exact H2_) | (have H2_ := (Option.bind_some _ _).symm.trans H; with_reducible exact H2_) | with_reducible exact H | (rw [hy176]; exact H) | exact H
                have Ny176 := Aside0.mk hy176
                clear hy176
                by_cases c15 : x12_1 < (x11_1.length : Int)
                · rw [if_pos c15] at H
                  have c15b0 : decide (x12_1 < (x11_1.length : Int)) = true := decide_eq_true c15
                  clear c15
                  obtain ⟨y177, hy177⟩ : ∃ y_ : List Int, y_ = (x11_1.set (x12_1 : Int).toNat (-1)) := ⟨_, rfl⟩
                  replace H : (turndownref08_shortest.l0 k1 l0 a1 a2 a3 y176 y177 (wrap64 (x12_1 + 1))) = some (r1, r2) := by first | (rw [hy177]; with_reducible exact H) | (have H2_ := (Option.bind_some _ _).symm.trans H; rw [hy177]; with_reducible exact H2_) | (have H2_ := (Option.bind_some _ _).symm.trans H; with_reducible exact H2_) | with_reducible exact H | (rw [hy177]; exact H) | exact H
                  have Ny177 := Aside0.mk hy177
                  clear hy177
                  have H' := Aside0.mk H
                  clear H
                  have p14 : 0 ≤ (x12_1 : Int) := of_decide_eq_true (by first | (with_reducible assumption) | assumption)
                  have q14 : (x12_1 : Int) < ((x10_1.length : Int) : Int) := of_decide_eq_true (by first | (with_reducible assumption) | assumption)
                  obtain ⟨go14, co14, eo14, gb14, gl14, cl14, HG14⟩ := Kd.R_form HO_10.out (by omega)
                  (first | cases eo14 | (injection eo14 with ea_ en_ ec_; (first | subst ea_ | (injection ea_ with ea_; subst ea_)); subst ec_; clear en_))
                  have GB14 := Aside0.mk gb14
                  have GG14 := Aside0.mk HG14
                  clear gb14 gl14 HG14
                  obtain ⟨hx14_0, hf14_0⟩ := Kd.R_celln 0 HO_10.out (x12_1 : Int) p14 q14
                  replace p14 := eq_true p14
                  replace q14 := eq_true q14
                  have HP17 := Kd.R_putg HO_10.out (x12_1 : Int) 1152921504606846976
                  go_wp2_with (first | ((with_reducible refine gate_store (t := 3) (p := 31) rfl ?_); refine store_event (t := 3) (p := 31) (v := ?vo_w18) (w1 := (wr.setCell ⟨go14, (x12_1 : Int).toNat, none⟩ (.int .i64 1152921504606846976))) ?hg ?ho ?hn ?hr ?_; (case ho => rfl); (case hg => rfl); (case hn => rfl); (case hr => first | (go_simp; done) | (go_simp; rfl)); intro w18 hw; have hg : wr.grownBy w18 (some go14) := (by rw [hw]; exact HP17.2); have hp_ : Kd.R (Kd.int .i64) 3 w18 w.heap.size (fun k_ => some k_ ≠ (v174 : Value).ownBlock) (.slice (some ⟨go14, 0, none⟩) x10_1.length co14) y176 := (by rw [hw, Ny176.out]; exact HP17.1); clear HP17; have n0_ := Aside0.mk (hp_); have n1_ := Aside0.mk (Kd.R_after (v := (.slice (some ⟨go14, 0, none⟩) x10_1.length co14)) (v1 := (.slice (some ⟨go14, 0, none⟩) x10_1.length co14)) (ok := (fun _ => True)) (by (with_reducible repeat (first | apply Kd.R_alloc | apply Kd.R_drewN | apply Kd.R_drew)); exact Kd.R_mono HO_11.out (fun _ hk => ⟨trivial, hk⟩)) hg (.inl rfl)); have n2_ := Aside0.mk ((by rw [hw]; exact below_set (HB.out) GB14.out : Below w.heap.size w w18)); clear HO_10; clear HO_11; clear HB; have HO_10 := n0_; have HO_11 := n1_; have HB := n2_; clear n0_ n1_ n2_; clear hg hw hp_; have p16 : 0 ≤ (x12_1 : Int) := of_decide_eq_true (by first | (with_reducible assumption) | assumption); have q16 : (x12_1 : Int) < ((x11_1.length : Int) : Int) := of_decide_eq_true (by first | (with_reducible assumption) | assumption); obtain ⟨go16, co16, eo16, gb16, gl16, cl16, HG16⟩ := Kd.R_form HO_11.out (by omega); (first | cases eo16 | (injection eo16 with ea_ en_ ec_; (first | subst ea_ | (injection ea_ with ea_; subst ea_)); subst ec_; clear en_)); have GB16 := Aside0.mk gb16; have GG16 := Aside0.mk HG16; clear gb16 gl16 HG16; obtain ⟨hx16_0, hf16_0⟩ := Kd.R_celln 0 HO_11.out (x12_1 : Int) p16 q16; replace p16 := eq_true p16; replace q16 := eq_true q16; have n_ := Aside0.mk (Kd.R_mono (ok' := (fun k_ => some k_ ≠ (.slice (some ⟨go14, 0, none⟩) x10_1.length co14 : Value).ownBlock)) HO_11.out (fun k_ hk => hk.2)); clear HO_11; have HO_11 := n_; clear n_; obtain ⟨hy19_, hz19_⟩ := Kd.R_celln 0 HO_11.out (x12_1 : Int) (of_decide_eq_true (by first | (with_reducible assumption) | assumption)) (of_decide_eq_true (by first | (with_reducible assumption) | assumption)); have HP19 := Kd.R_putg HO_11.out (x12_1 : Int) (-1)) | ((with_reducible refine gate_store (t := 3) (p := 34) rfl ?_); refine store_event (t := 3) (p := 34) (v := ?vo_w20) (w1 := (w18.setCell ⟨go16, (x12_1 : Int).toNat, none⟩ (.int .i64 (-1)))) ?hg ?ho ?hn ?hr ?_; (case ho => rfl); (case hg => rfl); (case hn => rfl); (case hr => first | (go_simp; done) | (go_simp; rfl)); intro w20 hw; have hg : w18.grownBy w20 (some go16) := (by rw [hw]; exact HP19.2); have hp_ : Kd.R (Kd.int .i64) 3 w20 w.heap.size (fun k_ => some k_ ≠ (.slice (some ⟨go14, 0, none⟩) x10_1.length co14 : Value).ownBlock) (.slice (some ⟨go16, 0, none⟩) x11_1.length co16) y177 := (by rw [hw, Ny177.out]; exact HP19.1); clear HP19; have n0_ := Aside0.mk (Kd.R_after (v := (.slice (some ⟨go16, 0, none⟩) x11_1.length co16)) (v1 := (.slice (some ⟨go16, 0, none⟩) x11_1.length co16)) (ok := (fun _ => True)) (by (with_reducible repeat (first | apply Kd.R_alloc | apply Kd.R_drewN | apply Kd.R_drew)); exact Kd.R_mono HO_10.out (fun _ hk => ⟨trivial, hk⟩)) hg (.inl rfl)); have n1_ := Aside0.mk (hp_); have n2_ := Aside0.mk ((by rw [hw]; exact below_set (HB.out) GB16.out : Below w.heap.size w w20)); clear HO_10; clear HO_11; clear HB; have HO_10 := n0_; have HO_11 := n1_; have HB := n2_; clear n0_ n1_ n2_; clear hg hw hp_))
                  go_roundg k1
                  case measure => have := HK1.out; omega
                  case rel => exact ⟨(y176), (y177), (wrap64 (x12_1 + 1)), (by first | rfl | (simp; done) | (simp [*]; done)), H', ⟨by have := HK1.out; omega⟩, ⟨by (with_reducible repeat (first | apply Kd.R_alloc | apply Kd.R_drewN | apply Kd.R_drew)); exact Kd.R_mono HO_10.out (fun _ hk => hk.2)⟩, ⟨by (with_reducible repeat (first | apply Kd.R_alloc | apply Kd.R_drewN | apply Kd.R_drew)); exact HO_11.out⟩, ⟨by repeat (first | (with_reducible first | exact HB.out | apply below_alloc | apply pw_below_drewN | apply below_drew1) | exact HB.out)⟩⟩
                · rw [if_neg c15] at H
                  exact absurd H (by simp)
              · rw [if_neg c13] at H
                exact absurd H (by simp)
            · rw [if_neg c12] at H
              exact absurd H (by simp)
          · rw [if_neg c11] at H
            have c11b0 : decide (x12_1 < a1) = false := decide_eq_false c11
            clear c11
            by_cases c21 : 0 ≤ a2
            · rw [if_pos c21] at H
              have c21b0 : decide (0 ≤ a2) = true := decide_eq_true c21
              clear c21
              by_cases c22 : a2 < (x10_1.length : Int)
              · rw [if_pos c22] at H
                have c22b0 : decide (a2 < (x10_1.length : Int)) = true := decide_eq_true c22
                clear c22
                obtain ⟨y178, hy178⟩ : ∃ y_ : List Int, y_ = (x10_1.set (a2 : Int).toNat 0) := ⟨_, rfl⟩
                replace H : (turndownref08_shortest.l1 k1 l0 a2 a3 y178 x11_1 true) = some (r1, r2) := by first | (rw [hy178]; with_reducible exact H) | (have H2_ := (Option.bind_some _ _).symm.trans H; rw [hy178]; with_reducible exact H2_) | (have H2_ := (Option.bind_some _ _).symm.trans H; with_reducible exact H2_) | with_reducible exact H | (rw [hy178]; exact H) | exact H
                have Ny178 := Aside0.mk hy178
                clear hy178
                have H' := Aside0.mk H
                clear H
                have p23 : 0 ≤ (a2 : Int) := of_decide_eq_true (by first | (with_reducible assumption) | assumption)
                have q23 : (a2 : Int) < ((x10_1.length : Int) : Int) := of_decide_eq_true (by first | (with_reducible assumption) | assumption)
                obtain ⟨go23, co23, eo23, gb23, gl23, cl23, HG23⟩ := Kd.R_form HO_10.out (by omega)
                (first | cases eo23 | (injection eo23 with ea_ en_ ec_; (first | subst ea_ | (injection ea_ with ea_; subst ea_)); subst ec_; clear en_))
                have GB23 := Aside0.mk gb23
                have GG23 := Aside0.mk HG23
                clear gb23 gl23 HG23
                obtain ⟨hx23_0, hf23_0⟩ := Kd.R_celln 0 HO_10.out (a2 : Int) p23 q23
                replace p23 := eq_true p23
                replace q23 := eq_true q23
                have HP24 := Kd.R_putg HO_10.out (a2 : Int) 0
                go_wp2_with (first | ((with_reducible refine gate_store (t := 3) (p := 37) rfl ?_); refine store_event (t := 3) (p := 37) (v := ?vo_w25) (w1 := (wr.setCell ⟨go23, (a2 : Int).toNat, none⟩ (.int .i64 0))) ?hg ?ho ?hn ?hr ?_; (case ho => rfl); (case hg => rfl); (case hn => rfl); (case hr => first | (go_simp; done) | (go_simp; rfl)); intro w25 hw; have hg : wr.grownBy w25 (some go23) := (by rw [hw]; exact HP24.2); have hp_ : Kd.R (Kd.int .i64) 3 w25 w.heap.size (fun k_ => some k_ ≠ (v174 : Value).ownBlock) (.slice (some ⟨go23, 0, none⟩) x10_1.length co23) y178 := (by rw [hw, Ny178.out]; exact HP24.1); clear HP24; have n0_ := Aside0.mk (hp_); have n1_ := Aside0.mk (Kd.R_after (v := (.slice (some ⟨go23, 0, none⟩) x10_1.length co23)) (v1 := (.slice (some ⟨go23, 0, none⟩) x10_1.length co23)) (ok := (fun _ => True)) (by (with_reducible repeat (first | apply Kd.R_alloc | apply Kd.R_drewN | apply Kd.R_drew)); exact Kd.R_mono HO_11.out (fun _ hk => ⟨trivial, hk⟩)) hg (.inl rfl)); have n2_ := Aside0.mk ((by rw [hw]; exact below_set (HB.out) GB23.out : Below w.heap.size w w25)); clear HO_10; clear HO_11; clear HB; have HO_10 := n0_; have HO_11 := n1_; have HB := n2_; clear n0_ n1_ n2_; clear hg hw hp_))
                go_loopg [13] k1 (fun kq v13 w' => ∃ (x10_2 : List Int) (x11_2 : List Int) (x13_2 : Bool), v13 = .bool x13_2 ∧ Aside0 (turndownref08_shortest.l1 kq l0 a2 a3 x10_2 x11_2 x13_2 = some (r1, r2)) ∧ Aside0 (kq ≤ k1) ∧ Aside0 (Kd.R (Kd.int .i64) 3 w' w.heap.size (fun k_ => some k_ ≠ (v174 : Value).ownBlock) (.slice (some ⟨go23, 0, none⟩) x10_1.length co23) x10_2) ∧ Aside0 (Kd.R (Kd.int .i64) 3 w' w.heap.size (fun k_ => some k_ ≠ ((.slice (some ⟨go23, 0, none⟩) x10_1.length co23) : Value).ownBlock) v174 x11_2) ∧ Aside0 (Below w.heap.size w w'))
                case atStart => exact ⟨(y178), (x11_1), (true), (by first | rfl | (simp; done) | (simp [*]; done)), H', ⟨Nat.le_refl _⟩, ⟨by (with_reducible repeat (first | apply Kd.R_alloc | apply Kd.R_drewN | apply Kd.R_drew)); exact HO_10.out⟩, ⟨by (with_reducible repeat (first | apply Kd.R_alloc | apply Kd.R_drewN | apply Kd.R_drew)); exact Kd.R_mono HO_11.out (fun _ hk => hk.2)⟩, ⟨by repeat (first | (with_reducible first | exact HB.out | apply below_alloc | apply pw_below_drewN | apply below_drew1) | exact HB.out)⟩⟩
                case round =>
                  clear H'
                  try clear c1
                  try clear p1
                  try clear q1
                  try clear hx1
                  try clear c2
                  try clear p2
                  try clear q2
                  try clear hx2
                  try clear c4
                  try clear c5
                  try clear c5b0
                  try clear c5b1
                  try clear c6
                  try clear c6b0
                  try clear c6b1
                  try clear p6
                  try clear c11
                  try clear c11b0
                  try clear c12
                  try clear c12b0
                  try clear c13
                  try clear c13b0
                  try clear p14
                  try clear q14
                  try clear hx14
                  try clear hf14
                  try clear c15
                  try clear c15b0
                  try clear p16
                  try clear q16
                  try clear hx16
                  try clear hf16
                  try clear c21
                  try clear c21b0
                  try clear c22
                  try clear c22b0
                  try clear p23
                  try clear q23
                  try clear hx23
                  try clear hf23
                  try clear hx14_0
                  try clear hx16_0
                  try clear hx23_0
                  try clear p14
                  try clear p16
                  try clear p2
                  try clear p23
                  try clear q14
                  try clear q16
                  try clear q23
                  obtain ⟨x10_2, x11_2, x13_2, rfl, HA, HK2, HO_10, HO_11, HB⟩ := hrel
                  have hl10_2 := (Kd.R_reads' HO_10.out).1
                  rw [hl10_2] at HO_10
                  (try simp only [hl10_2])
                  (try simp only [hl10_2] at HO_11)
                  cases gk with
                  | zero => exact absurd HA.out (by simp [turndownref08_shortest.l1])
                  | succ k2 =>
                    have H := HA.out
                    clear HA
                    simp only [turndownref08_shortest.l1] at H
                    by_cases c26 : x13_2 = true
                    · subst c26
                      have H1 : (turndownref08_shortest.l2 k2 l0 a2 a3 x10_2 x11_2 false 0) = some (r1, r2) := by rw [if_pos rfl] at H; exact H
                      clear H
                      have H := H1
                      clear H1
                      have H' := Aside0.mk H
                      clear H
                      go_wp2
                      go_loopg [13, 14] k2 (fun kq v13 v14 w' => ∃ (x10_3 : List Int) (x11_3 : List Int) (x13_3 : Bool) (x14_3 : Int), v13 = .bool x13_3 ∧ v14 = .int .i64 x14_3 ∧ Aside0 (turndownref08_shortest.l2 kq l0 a2 a3 x10_3 x11_3 x13_3 x14_3 = some (r1, r2)) ∧ Aside0 (kq ≤ k2) ∧ Aside0 (Kd.R (Kd.int .i64) 3 w' w.heap.size (fun k_ => some k_ ≠ (v174 : Value).ownBlock) (.slice (some ⟨go23, 0, none⟩) x10_2.length co23) x10_3) ∧ Aside0 (Kd.R (Kd.int .i64) 3 w' w.heap.size (fun k_ => some k_ ≠ ((.slice (some ⟨go23, 0, none⟩) x10_2.length co23) : Value).ownBlock) v174 x11_3) ∧ Aside0 (Below w.heap.size w w'))
                      case atStart => exact ⟨(x10_2), (x11_2), (false), (0), (by first | rfl | (simp; done) | (simp [*]; done)), (by first | rfl | (simp; done) | (simp [*]; done)), H', ⟨Nat.le_refl _⟩, ⟨by (try simp only [hl10_2]); (with_reducible repeat (first | apply Kd.R_alloc | apply Kd.R_drewN | apply Kd.R_drew)); exact HO_10.out⟩, ⟨by (try simp only [hl10_2]); (with_reducible repeat (first | apply Kd.R_alloc | apply Kd.R_drewN | apply Kd.R_drew)); exact HO_11.out⟩, ⟨by repeat (first | (with_reducible first | exact HB.out | apply below_alloc | apply pw_below_drewN | apply below_drew1) | exact HB.out)⟩⟩
                      case round =>
                        clear H'
                        try clear c1
                        try clear p1
                        try clear q1
                        try clear hx1
                        try clear c2
                        try clear p2
                        try clear q2
                        try clear hx2
                        try clear c4
                        try clear c5
                        try clear c5b0
                        try clear c5b1
                        try clear c6
                        try clear c6b0
                        try clear c6b1
                        try clear p6
                        try clear c11
                        try clear c11b0
                        try clear c12
                        try clear c12b0
                        try clear c13
                        try clear c13b0
                        try clear p14
                        try clear q14
                        try clear hx14
                        try clear hf14
                        try clear c15
                        try clear c15b0
                        try clear p16
                        try clear q16
                        try clear hx16
                        try clear hf16
                        try clear c21
                        try clear c21b0
                        try clear c22
                        try clear c22b0
                        try clear p23
                        try clear q23
                        try clear hx23
                        try clear hf23
                        try clear c26
                        try clear hx14_0
                        try clear hx16_0
                        try clear hx23_0
                        try clear p1
                        try clear p14
                        try clear p16
                        try clear p2
                        try clear p23
                        try clear p6
                        try clear q1
                        try clear q14
                        try clear q16
                        try clear q2
                        try clear q23
                        obtain ⟨x10_3, x11_3, x13_3, x14_3, rfl, rfl, HA, HK3, HO_10, HO_11, HB⟩ := hrel
                        have hl10_3 := (Kd.R_reads' HO_10.out).1
                        rw [hl10_3] at HO_10
                        (try simp only [hl10_3])
                        (try simp only [hl10_3] at HO_11)
                        cases gk with
                        | zero => exact absurd HA.out (by simp [turndownref08_shortest.l2])
                        | succ k3 =>
                          have H := HA.out
                          clear HA
                          simp only [turndownref08_shortest.l2] at H
                          by_cases c27 : x14_3 < (l0.length : Int)
                          · rw [if_pos c27] at H
                            have c27b0 : decide (x14_3 < (l0.length : Int)) = true := decide_eq_true c27
                            clear c27
                            by_cases c28 : 0 ≤ x14_3
                            · rw [if_pos c28] at H
                              have c28b0 : decide (0 ≤ x14_3) = true := decide_eq_true c28
                              clear c28
                              by_cases c29 : ((rd_T74 l0 x14_3).f2) > 0
                              · rw [if_pos c29] at H
                                have c29b0 : decide (0 < ((rd_T74 l0 x14_3).f2)) = true := decide_eq_true c29
                                clear c29
                                by_cases c30 : 0 ≤ ((rd_T74 l0 x14_3).f0)
                                · rw [if_pos c30] at H
                                  have c30b0 : decide (0 ≤ ((rd_T74 l0 x14_3).f0)) = true := decide_eq_true c30
                                  clear c30
                                  by_cases c31 : ((rd_T74 l0 x14_3).f0) < (x10_3.length : Int)
                                  · rw [if_pos c31] at H
                                    have c31b0 : decide (((rd_T74 l0 x14_3).f0) < (x10_3.length : Int)) = true := decide_eq_true c31
                                    clear c31
                                    by_cases c32 : (rd x10_3 ((rd_T74 l0 x14_3).f0)) < 1152921504606846976
                                    · rw [if_pos c32] at H
                                      have c32b0 : decide ((rd x10_3 ((rd_T74 l0 x14_3).f0)) < 1152921504606846976) = true := decide_eq_true c32
                                      clear c32
                                      by_cases c33 : 0 ≤ ((rd_T74 l0 x14_3).f1)
                                      · rw [if_pos c33] at H
                                        have c33b0 : decide (0 ≤ ((rd_T74 l0 x14_3).f1)) = true := decide_eq_true c33
                                        clear c33
                                        by_cases c34 : ((rd_T74 l0 x14_3).f1) < (x10_3.length : Int)
                                        · rw [if_pos c34] at H
                                          have c34b0 : decide (((rd_T74 l0 x14_3).f1) < (x10_3.length : Int)) = true := decide_eq_true c34
                                          clear c34
                                          by_cases c35 : (wrap64 ((rd x10_3 ((rd_T74 l0 x14_3).f0)) + ((rd_T74 l0 x14_3).f3))) < (rd x10_3 ((rd_T74 l0 x14_3).f1))
                                          · rw [if_pos c35] at H
                                            have c35b0 : decide ((wrap64 ((rd x10_3 ((rd_T74 l0 x14_3).f0)) + ((rd_T74 l0 x14_3).f3))) < (rd x10_3 ((rd_T74 l0 x14_3).f1))) = true := decide_eq_true c35
                                            clear c35
                                            obtain ⟨y185, hy185⟩ : ∃ y_ : List Int, y_ = (x10_3.set (((rd_T74 l0 x14_3).f1) : Int).toNat (wrap64 ((rd x10_3 ((rd_T74 l0 x14_3).f0)) + ((rd_T74 l0 x14_3).f3)))) := ⟨_, rfl⟩
                                            replace H : (if ((rd_T74 l0 x14_3).f1) < (x11_3.length : Int) then (turndownref08_shortest.l2 k3 l0 a2 a3 y185 (x11_3.set (((rd_T74 l0 x14_3).f1) : Int).toNat x14_3) true (wrap64 (x14_3 + 1))) else (none)) = some (r1, r2) := by first | (rw [hy185]; with_reducible exact H) | (have H2_ := (Option.bind_some _ _).symm.trans H; rw [hy185]; with_reducible exact H2_) | (have H2_ := (Option.bind_some _ _).symm.trans H; with_reducible exact H2_) | with_reducible exact H | (rw [hy185]; exact H) | exact H
                                            have Ny185 := Aside0.mk hy185
                                            clear hy185
                                            by_cases c37 : ((rd_T74 l0 x14_3).f1) < (x11_3.length : Int)
                                            · rw [if_pos c37] at H
                                              have c37b0 : decide (((rd_T74 l0 x14_3).f1) < (x11_3.length : Int)) = true := decide_eq_true c37
                                              clear c37
                                              obtain ⟨y186, hy186⟩ : ∃ y_ : List Int, y_ = (x11_3.set (((rd_T74 l0 x14_3).f1) : Int).toNat x14_3) := ⟨_, rfl⟩
                                              replace H : (turndownref08_shortest.l2 k3 l0 a2 a3 y185 y186 true (wrap64 (x14_3 + 1))) = some (r1, r2) := by first | (rw [hy186]; with_reducible exact H) | (have H2_ := (Option.bind_some _ _).symm.trans H; rw [hy186]; with_reducible exact H2_) | (have H2_ := (Option.bind_some _ _).symm.trans H; with_reducible exact H2_) | with_reducible exact H | (rw [hy186]; exact H) | exact H
                                              have Ny186 := Aside0.mk hy186
                                              clear hy186
                                              have H' := Aside0.mk H
                                              clear H
                                              have p179 : 0 ≤ (x14_3 : Int) := of_decide_eq_true (by first | (with_reducible assumption) | assumption)
                                              have q179 : x14_3 < (l0.length : Int) := of_decide_eq_true (by first | (with_reducible assumption) | assumption)
                                              obtain ⟨ad179, e179, hx179_0, hx179_1, hx179_2, hx179_3⟩ := at_T74 HR0.out x14_3 p179 q179
                                              cases e179
                                              replace hx179_0 := (HB.out.cell (World.block_lt_of_cell? w _ hx179_0)).trans hx179_0
                                              replace hx179_1 := (HB.out.cell (World.block_lt_of_cell? w _ hx179_1)).trans hx179_1
                                              replace hx179_2 := (HB.out.cell (World.block_lt_of_cell? w _ hx179_2)).trans hx179_2
                                              replace hx179_3 := (HB.out.cell (World.block_lt_of_cell? w _ hx179_3)).trans hx179_3
                                              replace p179 := eq_true p179
                                              replace q179 := eq_true q179
                                              try go_wp2_with (first | ((with_reducible refine gate_dst (N := 15) rfl ?_); refine box_event ?hg (N := 15) ?hd (cs := #[.int .i64 0, .int .i64 0, .int .i64 0, .int .i64 0]) (t := 74) ?hr ?_; (case hd => rfl); (case hg => rfl); (case hr => first | (go_simp; done) | (go_simp; rfl)); intro gb180 hg w39 hbox hb; have n0_ := Aside0.mk (Kd.R_below (by (with_reducible repeat (first | apply Kd.R_alloc | apply Kd.R_drewN | apply Kd.R_drew)); exact HO_10.out) hb); have n1_ := Aside0.mk (Kd.R_below (by (with_reducible repeat (first | apply Kd.R_alloc | apply Kd.R_drewN | apply Kd.R_drew)); exact HO_11.out) hb); have n2_ := Aside0.mk (below_step (by repeat (first | (with_reducible first | exact HB.out | apply below_alloc | apply pw_below_drewN | apply below_drew1) | exact HB.out)) hb); have n3_ := Aside0.mk (hbox); have n4_ := Aside0.mk ((by rw [hg]; exact (below_size (by repeat (first | (with_reducible first | exact HB.out | apply below_alloc | apply pw_below_drewN | apply below_drew1) | exact HB.out))) : w.heap.size ≤ gb180)); have n5_ := Aside0.mk ((by rw [hg]; exact (below_size (by repeat (first | (with_reducible first | exact HB.out | apply below_alloc | apply pw_below_drewN | apply below_drew1) | exact HB.out))) : w.heap.size ≤ gb180)); clear HO_10; clear HO_11; clear HB; have HO_10 := n0_; have HO_11 := n1_; have HB := n2_; have BK180 := n3_; have GW180 := n4_; have GE180 := n5_; clear n0_ n1_ n2_ n3_ n4_ n5_; clear hb hbox hg; have hcz40_0 : w39.cell? ⟨gb180, 0, none⟩ = some (.int .i64 0) := (blk_cell BK180.out 0).trans rfl; have hcz40_1 : w39.cell? ⟨gb180, 1, none⟩ = some (.int .i64 0) := (blk_cell BK180.out 1).trans rfl; have hcz40_2 : w39.cell? ⟨gb180, 2, none⟩ = some (.int .i64 0) := (blk_cell BK180.out 2).trans rfl; have hcz40_3 : w39.cell? ⟨gb180, 3, none⟩ = some (.int .i64 0) := (blk_cell BK180.out 3).trans rfl; have hfz40_0 := blk_frozen BK180.out 0; have hfz40_1 := blk_frozen BK180.out 1; have hfz40_2 := blk_frozen BK180.out 2; have hfz40_3 := blk_frozen BK180.out 3))
                                              have n0_ : Aside0 (Kd.R (Kd.int .i64) 3 ((((w39.setCell ⟨gb180, 0, none⟩ (.int .i64 ((rd_T74 l0 x14_3).f0))).setCell ⟨gb180, 1, none⟩ (.int .i64 ((rd_T74 l0 x14_3).f1))).setCell ⟨gb180, 2, none⟩ (.int .i64 ((rd_T74 l0 x14_3).f2))).setCell ⟨gb180, 3, none⟩ (.int .i64 ((rd_T74 l0 x14_3).f3))) w.heap.size (fun k_ => some k_ ≠ (v174 : Value).ownBlock) (.slice (some ⟨go23, 0, none⟩) x10_3.length co23) x10_3) := ⟨by (with_reducible repeat (first | apply Kd.R_alloc | apply Kd.R_drewN | apply Kd.R_drew)); exact Kd.R_mono (Kd.R_far (p := ⟨gb180, 3, none⟩) (Kd.R_far (p := ⟨gb180, 2, none⟩) (Kd.R_far (p := ⟨gb180, 1, none⟩) (Kd.R_far (p := ⟨gb180, 0, none⟩) (Kd.R_types HO_10.out BK180.out (by decide)) (fun _ hk => hk.2) (.int .i64 ((rd_T74 l0 x14_3).f0))) (fun _ hk => hk.2) (.int .i64 ((rd_T74 l0 x14_3).f1))) (fun _ hk => hk.2) (.int .i64 ((rd_T74 l0 x14_3).f2))) (fun _ hk => hk.2) (.int .i64 ((rd_T74 l0 x14_3).f3))) (fun _ hk => hk.1)⟩
                                              have n1_ : Aside0 (Kd.R (Kd.int .i64) 3 ((((w39.setCell ⟨gb180, 0, none⟩ (.int .i64 ((rd_T74 l0 x14_3).f0))).setCell ⟨gb180, 1, none⟩ (.int .i64 ((rd_T74 l0 x14_3).f1))).setCell ⟨gb180, 2, none⟩ (.int .i64 ((rd_T74 l0 x14_3).f2))).setCell ⟨gb180, 3, none⟩ (.int .i64 ((rd_T74 l0 x14_3).f3))) w.heap.size (fun k_ => some k_ ≠ (.slice (some ⟨go23, 0, none⟩) x10_3.length co23 : Value).ownBlock) v174 x11_3) := ⟨by (with_reducible repeat (first | apply Kd.R_alloc | apply Kd.R_drewN | apply Kd.R_drew)); exact Kd.R_mono (Kd.R_far (p := ⟨gb180, 3, none⟩) (Kd.R_far (p := ⟨gb180, 2, none⟩) (Kd.R_far (p := ⟨gb180, 1, none⟩) (Kd.R_far (p := ⟨gb180, 0, none⟩) (Kd.R_types HO_11.out BK180.out (by decide)) (fun _ hk => hk.2) (.int .i64 ((rd_T74 l0 x14_3).f0))) (fun _ hk => hk.2) (.int .i64 ((rd_T74 l0 x14_3).f1))) (fun _ hk => hk.2) (.int .i64 ((rd_T74 l0 x14_3).f2))) (fun _ hk => hk.2) (.int .i64 ((rd_T74 l0 x14_3).f3))) (fun _ hk => hk.1)⟩
                                              have n2_ : Aside0 (((((w39.setCell ⟨gb180, 0, none⟩ (.int .i64 ((rd_T74 l0 x14_3).f0))).setCell ⟨gb180, 1, none⟩ (.int .i64 ((rd_T74 l0 x14_3).f1))).setCell ⟨gb180, 2, none⟩ (.int .i64 ((rd_T74 l0 x14_3).f2))).setCell ⟨gb180, 3, none⟩ (.int .i64 ((rd_T74 l0 x14_3).f3))).heap[gb180]? = some (.cells #[.int .i64 ((rd_T74 l0 x14_3).f0), .int .i64 ((rd_T74 l0 x14_3).f1), .int .i64 ((rd_T74 l0 x14_3).f2), .int .i64 ((rd_T74 l0 x14_3).f3)] 74 (0, 0))) := ⟨by (with_reducible repeat (first | refine blk_drewN ?_ _ | refine blk_drew ?_ | refine blk_alloc ?_ _)); refine blk_put (cs := #[.int .i64 ((rd_T74 l0 x14_3).f0), .int .i64 ((rd_T74 l0 x14_3).f1), .int .i64 ((rd_T74 l0 x14_3).f2), .int .i64 0]) ?_ 3 _ rfl; (with_reducible repeat (first | refine blk_drewN ?_ _ | refine blk_drew ?_ | refine blk_alloc ?_ _)); refine blk_put (cs := #[.int .i64 ((rd_T74 l0 x14_3).f0), .int .i64 ((rd_T74 l0 x14_3).f1), .int .i64 0, .int .i64 0]) ?_ 2 _ rfl; (with_reducible repeat (first | refine blk_drewN ?_ _ | refine blk_drew ?_ | refine blk_alloc ?_ _)); refine blk_put (cs := #[.int .i64 ((rd_T74 l0 x14_3).f0), .int .i64 0, .int .i64 0, .int .i64 0]) ?_ 1 _ rfl; (with_reducible repeat (first | refine blk_drewN ?_ _ | refine blk_drew ?_ | refine blk_alloc ?_ _)); refine blk_put (cs := #[.int .i64 0, .int .i64 0, .int .i64 0, .int .i64 0]) ?_ 0 _ rfl; (with_reducible repeat (first | refine blk_drewN ?_ _ | refine blk_drew ?_ | refine blk_alloc ?_ _)); exact BK180.out⟩
                                              have n3_ : Aside0 (Below w.heap.size w ((((w39.setCell ⟨gb180, 0, none⟩ (.int .i64 ((rd_T74 l0 x14_3).f0))).setCell ⟨gb180, 1, none⟩ (.int .i64 ((rd_T74 l0 x14_3).f1))).setCell ⟨gb180, 2, none⟩ (.int .i64 ((rd_T74 l0 x14_3).f2))).setCell ⟨gb180, 3, none⟩ (.int .i64 ((rd_T74 l0 x14_3).f3)))) := ⟨by repeat (first | (with_reducible first | exact HB.out | apply below_alloc | apply pw_below_drewN | apply below_drew1 | refine below_set ?_ GE180.out) | exact HB.out)⟩
                                              (try clear HO_10)
                                              (try clear HO_11)
                                              (try clear BK180)
                                              (try clear HB)
                                              generalize ((((w39.setCell ⟨gb180, 0, none⟩ (.int .i64 ((rd_T74 l0 x14_3).f0))).setCell ⟨gb180, 1, none⟩ (.int .i64 ((rd_T74 l0 x14_3).f1))).setCell ⟨gb180, 2, none⟩ (.int .i64 ((rd_T74 l0 x14_3).f2))).setCell ⟨gb180, 3, none⟩ (.int .i64 ((rd_T74 l0 x14_3).f3))) = w41 at n0_ n1_ n2_ n3_ ⊢
                                              have HO_10 := n0_
                                              have HO_11 := n1_
                                              have BK180 := n2_
                                              have HB := n3_
                                              clear n0_ n1_ n2_ n3_
                                              have n0_ := Aside0.mk (Kd.R_drew HO_10.out)
                                              have n1_ := Aside0.mk (Kd.R_drew HO_11.out)
                                              have n2_ := Aside0.mk (blk_drew BK180.out)
                                              have n3_ := Aside0.mk (below_drew1 HB.out)
                                              clear HO_10
                                              clear HO_11
                                              clear BK180
                                              clear HB
                                              have HO_10 := n0_
                                              have HO_11 := n1_
                                              have BK180 := n2_
                                              have HB := n3_
                                              clear n0_ n1_ n2_ n3_
                                              have p181 : 0 ≤ (((rd_T74 l0 x14_3).f0) : Int) := of_decide_eq_true (by first | (with_reducible assumption) | assumption)
                                              have q181 : ((rd_T74 l0 x14_3).f0) < (x10_3.length : Int) := of_decide_eq_true (by first | (with_reducible assumption) | assumption)
                                              obtain ⟨ad181, e181, hx181_0⟩ := Kd.at_int (Kd.R_reads' HO_10.out).2.2 ((rd_T74 l0 x14_3).f0) p181 q181
                                              obtain rfl : (⟨go23, 0, none⟩ : Addr) = ad181 := (by injection e181)
                                              (first | simp only [add_plain] at hx181_0 | simp only [add_at] at hx181_0 | simp only [Addr.add, Nat.zero_add] at hx181_0 | skip)
                                              replace p181 := eq_true p181
                                              replace q181 := eq_true q181
                                              have p182 : 0 ≤ (((rd_T74 l0 x14_3).f0) : Int) := of_decide_eq_true (by first | (with_reducible assumption) | assumption)
                                              have q182 : ((rd_T74 l0 x14_3).f0) < (x10_3.length : Int) := of_decide_eq_true (by first | (with_reducible assumption) | assumption)
                                              obtain ⟨ad182, e182, hx182_0⟩ := Kd.at_int (Kd.R_reads' HO_10.out).2.2 ((rd_T74 l0 x14_3).f0) p182 q182
                                              obtain rfl : (⟨go23, 0, none⟩ : Addr) = ad182 := (by injection e182)
                                              (first | simp only [add_plain] at hx182_0 | simp only [add_at] at hx182_0 | simp only [Addr.add, Nat.zero_add] at hx182_0 | skip)
                                              replace p182 := eq_true p182
                                              replace q182 := eq_true q182
                                              have p183 : 0 ≤ (((rd_T74 l0 x14_3).f1) : Int) := of_decide_eq_true (by first | (with_reducible assumption) | assumption)
                                              have q183 : ((rd_T74 l0 x14_3).f1) < (x10_3.length : Int) := of_decide_eq_true (by first | (with_reducible assumption) | assumption)
                                              obtain ⟨ad183, e183, hx183_0⟩ := Kd.at_int (Kd.R_reads' HO_10.out).2.2 ((rd_T74 l0 x14_3).f1) p183 q183
                                              obtain rfl : (⟨go23, 0, none⟩ : Addr) = ad183 := (by injection e183)
                                              (first | simp only [add_plain] at hx183_0 | simp only [add_at] at hx183_0 | simp only [Addr.add, Nat.zero_add] at hx183_0 | skip)
                                              replace p183 := eq_true p183
                                              replace q183 := eq_true q183
                                              refine start_ (n := 27) (S := fun w' => w'.cell? ⟨gb180, 0, none⟩ = some (.int .i64 ((rd_T74 l0 x14_3).f0)) ∧ w'.cell? ⟨gb180, 1, none⟩ = some (.int .i64 ((rd_T74 l0 x14_3).f1)) ∧ w'.cell? ⟨gb180, 2, none⟩ = some (.int .i64 ((rd_T74 l0 x14_3).f2)) ∧ w'.cell? ⟨gb180, 3, none⟩ = some (.int .i64 ((rd_T74 l0 x14_3).f3)) ∧ w'.cell? ⟨go23, (((rd_T74 l0 x14_3).f0)).toNat, none⟩ = some (.int .i64 (rd x10_3 ((rd_T74 l0 x14_3).f0))) ∧ w'.cell? ⟨go23, (((rd_T74 l0 x14_3).f0)).toNat, none⟩ = some (.int .i64 (rd x10_3 ((rd_T74 l0 x14_3).f0))) ∧ w'.cell? ⟨go23, (((rd_T74 l0 x14_3).f1)).toNat, none⟩ = some (.int .i64 (rd x10_3 ((rd_T74 l0 x14_3).f1)))) (ds := []) #[false, false, false, false, false, false, false, false, false, false, false, false, false, false, false, false, false, false, false, false, false, false, false, false, false, false, false] (by kernel_rfl) rfl rfl ⟨(blk_cell BK180.out 0).trans rfl, (blk_cell BK180.out 1).trans rfl, (blk_cell BK180.out 2).trans rfl, (blk_cell BK180.out 3).trans rfl, hx181_0, hx182_0, hx183_0⟩ (fun hHeld => ?_); refine with_tabW turndownref08_shortest.tab16 turndownref08_shortest.bits16 (fun HT_ HW_ => ?_)
                                              generalize w41.drew = w42 at HO_10 HO_11 BK180 HB hx181_0 hx182_0 hx183_0 hHeld ⊢
                                              refine pure_ (i := 0) (N := some 49) (v := ?_) (a' := ?_) #[true, false, false, false, false, false, false, false, false, false, false, false, false, false, false, false, false, false, false, false, false, false, false, false, false, false, false] rfl rfl (any_of HT_.out (by kernel_rfl)) (fun _ _ _ h => h) (Or.inl ⟨by rfl, ?_⟩) ?_ ?_
                                              rotate_left
                                              · intro w'
                                                go_simp
                                                with_reducible rfl
                                              rotate_left
                                              · simp only [Act.put, List.setIfInBounds_toArray, List.set_cons_zero, List.set_cons_succ, i64_w, i32_w]
                                                rfl
                                              refine take_ (i := 1) (N := some 50) (v := ?_) (a' := ?_) #[true, true, false, false, false, false, false, false, false, false, false, false, false, false, false, false, false, false, false, false, false, false, false, false, false, false, false] rfl rfl (take_ofW HT_.out HW_.out (by kernel_rfl)) (fun _ _ _ h => h) (Or.inl ⟨by rfl, ?_⟩) hHeld ?_ ?_
                                              rotate_left
                                              · rintro w' ⟨s0, s1, s2, s3, s4, s5, s6⟩
                                                go_simp
                                                with_reducible rfl
                                              rotate_left
                                              · simp only [Act.put, List.setIfInBounds_toArray, List.set_cons_zero, List.set_cons_succ, i64_w, i32_w]
                                                rfl
                                              refine pure_ (i := 2) (N := some 51) (v := ?_) (a' := ?_) #[true, true, true, false, false, false, false, false, false, false, false, false, false, false, false, false, false, false, false, false, false, false, false, false, false, false, false] rfl rfl (any_of HT_.out (by kernel_rfl)) (fun _ _ _ h => h) (Or.inl ⟨by rfl, ?_⟩) ?_ ?_
                                              rotate_left
                                              · intro w'
                                                go_simp
                                                with_reducible rfl
                                              rotate_left
                                              · simp only [Act.put, List.setIfInBounds_toArray, List.set_cons_zero, List.set_cons_succ, i64_w, i32_w]
                                                rfl
                                              refine pure_ (i := 3) (N := some 52) (v := ?_) (a' := ?_) #[true, true, true, true, false, false, false, false, false, false, false, false, false, false, false, false, false, false, false, false, false, false, false, false, false, false, false] rfl rfl (any_of HT_.out (by kernel_rfl)) (fun _ _ _ h => h) (Or.inl ⟨by rfl, ?_⟩) ?_ ?_
                                              rotate_left
                                              · intro w'
                                                go_simp
                                                with_reducible rfl
                                              rotate_left
                                              · simp only [Act.put, List.setIfInBounds_toArray, List.set_cons_zero, List.set_cons_succ, i64_w, i32_w]
                                                rfl
                                              refine pure_ (i := 4) (N := some 53) (v := ?_) (a' := ?_) #[true, true, true, true, true, false, false, false, false, false, false, false, false, false, false, false, false, false, false, false, false, false, false, false, false, false, false] rfl rfl (any_of HT_.out (by kernel_rfl)) (fun _ _ _ h => h) (Or.inl ⟨by rfl, ?_⟩) ?_ ?_
                                              rotate_left
                                              · intro w'
                                                go_simp
                                                with_reducible rfl
                                              rotate_left
                                              · simp only [Act.put, List.setIfInBounds_toArray, List.set_cons_zero, List.set_cons_succ, i64_w, i32_w]
                                                rfl
                                              refine pure_ (i := 5) (N := some 54) (v := ?_) (a' := ?_) #[true, true, true, true, true, true, false, false, false, false, false, false, false, false, false, false, false, false, false, false, false, false, false, false, false, false, false] rfl rfl (any_of HT_.out (by kernel_rfl)) (fun _ _ _ h => h) (Or.inl ⟨by rfl, ?_⟩) ?_ ?_
                                              rotate_left
                                              · intro w'
                                                go_simp
                                                with_reducible rfl
                                              rotate_left
                                              · simp only [Act.put, List.setIfInBounds_toArray, List.set_cons_zero, List.set_cons_succ, i64_w, i32_w]
                                                rfl
                                              refine take_ (i := 6) (N := some 55) (v := ?_) (a' := ?_) #[true, true, true, true, true, true, true, false, false, false, false, false, false, false, false, false, false, false, false, false, false, false, false, false, false, false, false] rfl rfl (take_ofW HT_.out HW_.out (by kernel_rfl)) (fun _ _ _ h => h) (Or.inl ⟨by rfl, ?_⟩) hHeld ?_ ?_
                                              rotate_left
                                              · rintro w' ⟨s0, s1, s2, s3, s4, s5, s6⟩
                                                go_simp
                                                with_reducible rfl
                                              rotate_left
                                              · simp only [Act.put, List.setIfInBounds_toArray, List.set_cons_zero, List.set_cons_succ, i64_w, i32_w]
                                                rfl
                                              refine pure_ (i := 7) (N := some 56) (v := ?_) (a' := ?_) #[true, true, true, true, true, true, true, true, false, false, false, false, false, false, false, false, false, false, false, false, false, false, false, false, false, false, false] rfl rfl (any_of HT_.out (by kernel_rfl)) (fun _ _ _ h => h) (Or.inl ⟨by rfl, ?_⟩) ?_ ?_
                                              rotate_left
                                              · intro w'
                                                go_simp
                                                with_reducible rfl
                                              rotate_left
                                              · simp only [Act.put, List.setIfInBounds_toArray, List.set_cons_zero, List.set_cons_succ, i64_w, i32_w]
                                                rfl
                                              refine take_ (i := 8) (N := some 57) (v := ?_) (a' := ?_) #[true, true, true, true, true, true, true, true, true, false, false, false, false, false, false, false, false, false, false, false, false, false, false, false, false, false, false] rfl rfl (take_ofW HT_.out HW_.out (by kernel_rfl)) (fun _ _ _ h => h) (Or.inl ⟨by rfl, ?_⟩) hHeld ?_ ?_
                                              rotate_left
                                              · rintro w' ⟨s0, s1, s2, s3, s4, s5, s6⟩
                                                go_simp
                                                with_reducible rfl
                                              rotate_left
                                              · simp only [Act.put, List.setIfInBounds_toArray, List.set_cons_zero, List.set_cons_succ, i64_w, i32_w]
                                                rfl
                                              refine pure_ (i := 9) (N := some 58) (v := ?_) (a' := ?_) #[true, true, true, true, true, true, true, true, true, true, false, false, false, false, false, false, false, false, false, false, false, false, false, false, false, false, false] rfl rfl (any_of HT_.out (by kernel_rfl)) (fun _ _ _ h => h) (Or.inl ⟨by rfl, ?_⟩) ?_ ?_
                                              rotate_left
                                              · intro w'
                                                go_simp
                                                with_reducible rfl
                                              rotate_left
                                              · simp only [Act.put, List.setIfInBounds_toArray, List.set_cons_zero, List.set_cons_succ, i64_w, i32_w]
                                                rfl
                                              refine pure_ (i := 10) (N := some 59) (v := ?_) (a' := ?_) #[true, true, true, true, true, true, true, true, true, true, true, false, false, false, false, false, false, false, false, false, false, false, false, false, false, false, false] rfl rfl (any_of HT_.out (by kernel_rfl)) (fun _ _ _ h => h) (Or.inl ⟨by rfl, ?_⟩) ?_ ?_
                                              rotate_left
                                              · intro w'
                                                go_simp
                                                with_reducible rfl
                                              rotate_left
                                              · simp only [Act.put, List.setIfInBounds_toArray, List.set_cons_zero, List.set_cons_succ, i64_w, i32_w]
                                                rfl
                                              refine pure_ (i := 11) (N := some 60) (v := ?_) (a' := ?_) #[true, true, true, true, true, true, true, true, true, true, true, true, false, false, false, false, false, false, false, false, false, false, false, false, false, false, false] rfl rfl (any_of HT_.out (by kernel_rfl)) (fun _ _ _ h => h) (Or.inl ⟨by rfl, ?_⟩) ?_ ?_
                                              rotate_left
                                              · intro w'
                                                go_simp
                                                with_reducible rfl
                                              rotate_left
                                              · simp only [Act.put, List.setIfInBounds_toArray, List.set_cons_zero, List.set_cons_succ, i64_w, i32_w]
                                                rfl
                                              refine pure_ (i := 12) (N := some 61) (v := ?_) (a' := ?_) #[true, true, true, true, true, true, true, true, true, true, true, true, true, false, false, false, false, false, false, false, false, false, false, false, false, false, false] rfl rfl (any_of HT_.out (by kernel_rfl)) (fun _ _ _ h => h) (Or.inl ⟨by rfl, ?_⟩) ?_ ?_
                                              rotate_left
                                              · intro w'
                                                go_simp
                                                with_reducible rfl
                                              rotate_left
                                              · simp only [Act.put, List.setIfInBounds_toArray, List.set_cons_zero, List.set_cons_succ, i64_w, i32_w]
                                                rfl
                                              refine pure_ (i := 13) (N := some 62) (v := ?_) (a' := ?_) #[true, true, true, true, true, true, true, true, true, true, true, true, true, true, false, false, false, false, false, false, false, false, false, false, false, false, false] rfl rfl (any_of HT_.out (by kernel_rfl)) (fun _ _ _ h => h) (Or.inl ⟨by rfl, ?_⟩) ?_ ?_
                                              rotate_left
                                              · intro w'
                                                go_simp
                                                with_reducible rfl
                                              rotate_left
                                              · simp only [Act.put, List.setIfInBounds_toArray, List.set_cons_zero, List.set_cons_succ, i64_w, i32_w]
                                                rfl
                                              refine pure_ (i := 17) (N := some 66) (v := ?_) (a' := ?_) #[true, true, true, true, true, true, true, true, true, true, true, true, true, true, false, false, false, true, false, false, false, false, false, false, false, false, false] rfl rfl (any_of HT_.out (by kernel_rfl)) (fun _ _ _ h => h) (Or.inl ⟨by rfl, ?_⟩) ?_ ?_
                                              rotate_left
                                              · intro w'
                                                go_simp
                                                with_reducible rfl
                                              rotate_left
                                              · simp only [Act.put, List.setIfInBounds_toArray, List.set_cons_zero, List.set_cons_succ, i64_w, i32_w]
                                                rfl
                                              refine pure_ (i := 20) (N := some 69) (v := ?_) (a' := ?_) #[true, true, true, true, true, true, true, true, true, true, true, true, true, true, false, false, false, true, false, false, true, false, false, false, false, false, false] rfl rfl (any_of HT_.out (by kernel_rfl)) (fun _ _ _ h => h) (Or.inl ⟨by rfl, ?_⟩) ?_ ?_
                                              rotate_left
                                              · intro w'
                                                go_simp
                                                with_reducible rfl
                                              rotate_left
                                              · simp only [Act.put, List.setIfInBounds_toArray, List.set_cons_zero, List.set_cons_succ, i64_w, i32_w]
                                                rfl
                                              refine pure_ (i := 21) (N := some 70) (v := ?_) (a' := ?_) #[true, true, true, true, true, true, true, true, true, true, true, true, true, true, false, false, false, true, false, false, true, true, false, false, false, false, false] rfl rfl (any_of HT_.out (by kernel_rfl)) (fun _ _ _ h => h) (Or.inl ⟨by rfl, ?_⟩) ?_ ?_
                                              rotate_left
                                              · intro w'
                                                go_simp
                                                with_reducible rfl
                                              rotate_left
                                              · simp only [Act.put, List.setIfInBounds_toArray, List.set_cons_zero, List.set_cons_succ, i64_w, i32_w]
                                                rfl
                                              refine take_ (i := 14) (N := some 63) (v := ?_) (a' := ?_) #[true, true, true, true, true, true, true, true, true, true, true, true, true, true, true, false, false, true, false, false, true, true, false, false, false, false, false] rfl rfl (take_ofW HT_.out HW_.out (by kernel_rfl)) (fun _ _ _ h => h) (Or.inl ⟨by rfl, ?_⟩) hHeld ?_ ?_
                                              rotate_left
                                              · rintro w' ⟨s0, s1, s2, s3, s4, s5, s6⟩
                                                go_simp
                                                with_reducible rfl
                                              rotate_left
                                              · simp only [Act.put, List.setIfInBounds_toArray, List.set_cons_zero, List.set_cons_succ, i64_w, i32_w]
                                                rfl
                                              refine pure_ (i := 15) (N := some 64) (v := ?_) (a' := ?_) #[true, true, true, true, true, true, true, true, true, true, true, true, true, true, true, true, false, true, false, false, true, true, false, false, false, false, false] rfl rfl (any_of HT_.out (by kernel_rfl)) (fun _ _ _ h => h) (Or.inl ⟨by rfl, ?_⟩) ?_ ?_
                                              rotate_left
                                              · intro w'
                                                go_simp
                                                with_reducible rfl
                                              rotate_left
                                              · simp only [Act.put, List.setIfInBounds_toArray, List.set_cons_zero, List.set_cons_succ, i64_w, i32_w]
                                                rfl
                                              refine take_ (i := 16) (N := some 65) (v := ?_) (a' := ?_) #[true, true, true, true, true, true, true, true, true, true, true, true, true, true, true, true, true, true, false, false, true, true, false, false, false, false, false] rfl rfl (take_ofW HT_.out HW_.out (by kernel_rfl)) (fun _ _ _ h => h) (Or.inl ⟨by rfl, ?_⟩) hHeld ?_ ?_
                                              rotate_left
                                              · rintro w' ⟨s0, s1, s2, s3, s4, s5, s6⟩
                                                go_simp
                                                with_reducible rfl
                                              rotate_left
                                              · simp only [Act.put, List.setIfInBounds_toArray, List.set_cons_zero, List.set_cons_succ, i64_w, i32_w]
                                                rfl
                                              refine take_ (i := 18) (N := some 67) (v := ?_) (a' := ?_) #[true, true, true, true, true, true, true, true, true, true, true, true, true, true, true, true, true, true, true, false, true, true, false, false, false, false, false] rfl rfl (take_ofW HT_.out HW_.out (by kernel_rfl)) (fun _ _ _ h => h) (Or.inl ⟨by rfl, ?_⟩) hHeld ?_ ?_
                                              rotate_left
                                              · rintro w' ⟨s0, s1, s2, s3, s4, s5, s6⟩
                                                go_simp
                                                with_reducible rfl
                                              rotate_left
                                              · simp only [Act.put, List.setIfInBounds_toArray, List.set_cons_zero, List.set_cons_succ, i64_w, i32_w]
                                                rfl
                                              refine pure_ (i := 19) (N := some 68) (v := ?_) (a' := ?_) #[true, true, true, true, true, true, true, true, true, true, true, true, true, true, true, true, true, true, true, true, true, true, false, false, false, false, false] rfl rfl (any_of HT_.out (by kernel_rfl)) (fun _ _ _ h => h) (Or.inl ⟨by rfl, ?_⟩) ?_ ?_
                                              rotate_left
                                              · intro w'
                                                go_simp
                                                with_reducible rfl
                                              rotate_left
                                              · simp only [Act.put, List.setIfInBounds_toArray, List.set_cons_zero, List.set_cons_succ, i64_w, i32_w]
                                                rfl
                                              refine take_ (i := 22) (N := some 71) (v := ?_) (a' := ?_) #[true, true, true, true, true, true, true, true, true, true, true, true, true, true, true, true, true, true, true, true, true, true, true, false, false, false, false] rfl rfl (take_ofW HT_.out HW_.out (by kernel_rfl)) (fun _ _ _ h => h) (Or.inl ⟨by rfl, ?_⟩) hHeld ?_ ?_
                                              rotate_left
                                              · rintro w' ⟨s0, s1, s2, s3, s4, s5, s6⟩
                                                go_simp
                                                with_reducible rfl
                                              rotate_left
                                              · simp only [Act.put, List.setIfInBounds_toArray, List.set_cons_zero, List.set_cons_succ, i64_w, i32_w]
                                                rfl
                                              refine pure_ (i := 23) (N := some 72) (v := ?_) (a' := ?_) #[true, true, true, true, true, true, true, true, true, true, true, true, true, true, true, true, true, true, true, true, true, true, true, true, false, false, false] rfl rfl (any_of HT_.out (by kernel_rfl)) (fun _ _ _ h => h) (Or.inl ⟨by rfl, ?_⟩) ?_ ?_
                                              rotate_left
                                              · intro w'
                                                go_simp
                                                with_reducible rfl
                                              rotate_left
                                              · simp only [Act.put, List.setIfInBounds_toArray, List.set_cons_zero, List.set_cons_succ, i64_w, i32_w]
                                                rfl
                                              refine take_ (i := 24) (N := some 73) (v := ?_) (a' := ?_) #[true, true, true, true, true, true, true, true, true, true, true, true, true, true, true, true, true, true, true, true, true, true, true, true, true, false, false] rfl rfl (take_ofW HT_.out HW_.out (by kernel_rfl)) (fun _ _ _ h => h) (Or.inl ⟨by rfl, ?_⟩) hHeld ?_ ?_
                                              rotate_left
                                              · rintro w' ⟨s0, s1, s2, s3, s4, s5, s6⟩
                                                go_simp
                                                with_reducible rfl
                                              rotate_left
                                              · simp only [Act.put, List.setIfInBounds_toArray, List.set_cons_zero, List.set_cons_succ, i64_w, i32_w]
                                                rfl
                                              refine pure_ (i := 25) (N := some 74) (v := ?_) (a' := ?_) #[true, true, true, true, true, true, true, true, true, true, true, true, true, true, true, true, true, true, true, true, true, true, true, true, true, true, false] rfl rfl (any_of HT_.out (by kernel_rfl)) (fun _ _ _ h => h) (Or.inl ⟨by rfl, ?_⟩) ?_ ?_
                                              rotate_left
                                              · intro w'
                                                go_simp
                                                with_reducible rfl
                                              rotate_left
                                              · simp only [Act.put, List.setIfInBounds_toArray, List.set_cons_zero, List.set_cons_succ, i64_w, i32_w]
                                                rfl
                                              refine pure_ (i := 26) (N := some 75) (v := ?_) (a' := ?_) #[true, true, true, true, true, true, true, true, true, true, true, true, true, true, true, true, true, true, true, true, true, true, true, true, true, true, true] rfl rfl (any_of HT_.out (by kernel_rfl)) (fun _ _ _ h => h) (Or.inl ⟨by rfl, ?_⟩) ?_ ?_
                                              rotate_left
                                              · intro w'
                                                go_simp
                                                with_reducible rfl
                                              rotate_left
                                              · simp only [Act.put, List.setIfInBounds_toArray, List.set_cons_zero, List.set_cons_succ, i64_w, i32_w]
                                                rfl
                                              refine done_ (done_of HT_.out (by kernel_rfl)) ?_
                                              try go_wp2
                                              have n0_ := Aside0.mk (Kd.R_drew HO_10.out)
                                              have n1_ := Aside0.mk (Kd.R_drew HO_11.out)
                                              have n2_ := Aside0.mk (blk_drew BK180.out)
                                              have n3_ := Aside0.mk (below_drew1 HB.out)
                                              clear HO_10
                                              clear HO_11
                                              clear BK180
                                              clear HB
                                              have HO_10 := n0_
                                              have HO_11 := n1_
                                              have BK180 := n2_
                                              have HB := n3_
                                              clear n0_ n1_ n2_ n3_
                                              have p184 : 0 ≤ (((rd_T74 l0 x14_3).f0) : Int) := of_decide_eq_true (by first | (with_reducible assumption) | assumption)
                                              have q184 : ((rd_T74 l0 x14_3).f0) < (x10_3.length : Int) := of_decide_eq_true (by first | (with_reducible assumption) | assumption)
                                              obtain ⟨ad184, e184, hx184_0⟩ := Kd.at_int (Kd.R_reads' HO_10.out).2.2 ((rd_T74 l0 x14_3).f0) p184 q184
                                              obtain rfl : (⟨go23, 0, none⟩ : Addr) = ad184 := (by injection e184)
                                              (first | simp only [add_plain] at hx184_0 | simp only [add_at] at hx184_0 | simp only [Addr.add, Nat.zero_add] at hx184_0 | skip)
                                              replace p184 := eq_true p184
                                              replace q184 := eq_true q184
                                              have p36 : 0 ≤ (((rd_T74 l0 x14_3).f1) : Int) := of_decide_eq_true (by first | (with_reducible assumption) | assumption)
                                              have q36 : (((rd_T74 l0 x14_3).f1) : Int) < ((x10_3.length : Int) : Int) := of_decide_eq_true (by first | (with_reducible assumption) | assumption)
                                              obtain ⟨hx36_0, hf36_0⟩ := Kd.R_celln 0 HO_10.out (((rd_T74 l0 x14_3).f1) : Int) p36 q36
                                              replace p36 := eq_true p36
                                              replace q36 := eq_true q36
                                              have HP44 := Kd.R_putn HO_10.out (((rd_T74 l0 x14_3).f1) : Int) (wrap64 ((rd x10_3 ((rd_T74 l0 x14_3).f0)) + ((rd_T74 l0 x14_3).f3)))
                                              rw [← Ny185.out] at HP44
                                              have HQ44 := Aside0.mk HP44
                                              clear HP44
                                              refine start_ (n := 13) (S := fun w' => w'.cell? ⟨gb180, 0, none⟩ = some (.int .i64 ((rd_T74 l0 x14_3).f0)) ∧ w'.cell? ⟨gb180, 1, none⟩ = some (.int .i64 ((rd_T74 l0 x14_3).f1)) ∧ w'.cell? ⟨gb180, 2, none⟩ = some (.int .i64 ((rd_T74 l0 x14_3).f2)) ∧ w'.cell? ⟨gb180, 3, none⟩ = some (.int .i64 ((rd_T74 l0 x14_3).f3)) ∧ w'.cell? ⟨go23, (((rd_T74 l0 x14_3).f0)).toNat, none⟩ = some (.int .i64 (rd x10_3 ((rd_T74 l0 x14_3).f0)))) (ds := [12]) #[false, false, false, false, false, false, false, false, false, false, false, false, false] (by kernel_rfl) rfl rfl ⟨(blk_cell BK180.out 0).trans rfl, (blk_cell BK180.out 1).trans rfl, (blk_cell BK180.out 2).trans rfl, (blk_cell BK180.out 3).trans rfl, hx184_0⟩ (fun hHeld => ?_); refine with_tabW turndownref08_shortest.tab17 turndownref08_shortest.bits17 (fun HT_ HW_ => ?_)
                                              generalize w42.drew = w43 at HO_10 HO_11 BK180 HB HQ44 hf36_0 hx184_0 hx36_0 hHeld ⊢
                                              refine pure_ (i := 0) (N := some 76) (v := ?_) (a' := ?_) #[true, false, false, false, false, false, false, false, false, false, false, false, false] rfl rfl (any_of HT_.out (by kernel_rfl)) (fun _ _ _ h => h) (Or.inl ⟨by rfl, ?_⟩) ?_ ?_
                                              rotate_left
                                              · intro w'
                                                go_simp
                                                with_reducible rfl
                                              rotate_left
                                              · simp only [Act.put, List.setIfInBounds_toArray, List.set_cons_zero, List.set_cons_succ, i64_w, i32_w]
                                                rfl
                                              refine pure_ (i := 1) (N := some 77) (v := ?_) (a' := ?_) #[true, true, false, false, false, false, false, false, false, false, false, false, false] rfl rfl (any_of HT_.out (by kernel_rfl)) (fun _ _ _ h => h) (Or.inl ⟨by rfl, ?_⟩) ?_ ?_
                                              rotate_left
                                              · intro w'
                                                go_simp
                                                with_reducible rfl
                                              rotate_left
                                              · simp only [Act.put, List.setIfInBounds_toArray, List.set_cons_zero, List.set_cons_succ, i64_w, i32_w]
                                                rfl
                                              refine pure_ (i := 3) (N := some 79) (v := ?_) (a' := ?_) #[true, true, false, true, false, false, false, false, false, false, false, false, false] rfl rfl (any_of HT_.out (by kernel_rfl)) (fun _ _ _ h => h) (Or.inl ⟨by rfl, ?_⟩) ?_ ?_
                                              rotate_left
                                              · intro w'
                                                go_simp
                                                with_reducible rfl
                                              rotate_left
                                              · simp only [Act.put, List.setIfInBounds_toArray, List.set_cons_zero, List.set_cons_succ, i64_w, i32_w]
                                                rfl
                                              refine pure_ (i := 4) (N := some 80) (v := ?_) (a' := ?_) #[true, true, false, true, true, false, false, false, false, false, false, false, false] rfl rfl (any_of HT_.out (by kernel_rfl)) (fun _ _ _ h => h) (Or.inl ⟨by rfl, ?_⟩) ?_ ?_
                                              rotate_left
                                              · intro w'
                                                go_simp
                                                with_reducible rfl
                                              rotate_left
                                              · simp only [Act.put, List.setIfInBounds_toArray, List.set_cons_zero, List.set_cons_succ, i64_w, i32_w]
                                                rfl
                                              refine pure_ (i := 8) (N := some 84) (v := ?_) (a' := ?_) #[true, true, false, true, true, false, false, false, true, false, false, false, false] rfl rfl (any_of HT_.out (by kernel_rfl)) (fun _ _ _ h => h) (Or.inl ⟨by rfl, ?_⟩) ?_ ?_
                                              rotate_left
                                              · intro w'
                                                go_simp
                                                with_reducible rfl
                                              rotate_left
                                              · simp only [Act.put, List.setIfInBounds_toArray, List.set_cons_zero, List.set_cons_succ, i64_w, i32_w]
                                                rfl
                                              refine take_ (i := 2) (N := some 78) (v := ?_) (a' := ?_) #[true, true, true, true, true, false, false, false, true, false, false, false, false] rfl rfl (take_ofW HT_.out HW_.out (by kernel_rfl)) (fun _ _ _ h => h) (Or.inl ⟨by rfl, ?_⟩) hHeld ?_ ?_
                                              rotate_left
                                              · rintro w' ⟨s0, s1, s2, s3, s4⟩
                                                go_simp
                                                with_reducible rfl
                                              rotate_left
                                              · simp only [Act.put, List.setIfInBounds_toArray, List.set_cons_zero, List.set_cons_succ, i64_w, i32_w]
                                                rfl
                                              refine take_ (i := 5) (N := some 81) (v := ?_) (a' := ?_) #[true, true, true, true, true, true, false, false, true, false, false, false, false] rfl rfl (take_ofW HT_.out HW_.out (by kernel_rfl)) (fun _ _ _ h => h) (Or.inl ⟨by rfl, ?_⟩) hHeld ?_ ?_
                                              rotate_left
                                              · rintro w' ⟨s0, s1, s2, s3, s4⟩
                                                go_simp
                                                with_reducible rfl
                                              rotate_left
                                              · simp only [Act.put, List.setIfInBounds_toArray, List.set_cons_zero, List.set_cons_succ, i64_w, i32_w]
                                                rfl
                                              refine pure_ (i := 6) (N := some 82) (v := ?_) (a' := ?_) #[true, true, true, true, true, true, true, false, true, false, false, false, false] rfl rfl (any_of HT_.out (by kernel_rfl)) (fun _ _ _ h => h) (Or.inl ⟨by rfl, ?_⟩) ?_ ?_
                                              rotate_left
                                              · intro w'
                                                go_simp
                                                with_reducible rfl
                                              rotate_left
                                              · simp only [Act.put, List.setIfInBounds_toArray, List.set_cons_zero, List.set_cons_succ, i64_w, i32_w]
                                                rfl
                                              refine take_ (i := 7) (N := some 83) (v := ?_) (a' := ?_) #[true, true, true, true, true, true, true, true, true, false, false, false, false] rfl rfl (take_ofW HT_.out HW_.out (by kernel_rfl)) (fun _ _ _ h => h) (Or.inl ⟨by rfl, ?_⟩) hHeld ?_ ?_
                                              rotate_left
                                              · rintro w' ⟨s0, s1, s2, s3, s4⟩
                                                go_simp
                                                with_reducible rfl
                                              rotate_left
                                              · simp only [Act.put, List.setIfInBounds_toArray, List.set_cons_zero, List.set_cons_succ, i64_w, i32_w]
                                                rfl
                                              refine take_ (i := 9) (N := some 85) (v := ?_) (a' := ?_) #[true, true, true, true, true, true, true, true, true, true, false, false, false] rfl rfl (take_ofW HT_.out HW_.out (by kernel_rfl)) (fun _ _ _ h => h) (Or.inl ⟨by rfl, ?_⟩) hHeld ?_ ?_
                                              rotate_left
                                              · rintro w' ⟨s0, s1, s2, s3, s4⟩
                                                go_simp
                                                with_reducible rfl
                                              rotate_left
                                              · simp only [Act.put, List.setIfInBounds_toArray, List.set_cons_zero, List.set_cons_succ, i64_w, i32_w]
                                                rfl
                                              refine pure_ (i := 10) (N := some 86) (v := ?_) (a' := ?_) #[true, true, true, true, true, true, true, true, true, true, true, false, false] rfl rfl (any_of HT_.out (by kernel_rfl)) (fun _ _ _ h => h) (Or.inl ⟨by rfl, ?_⟩) ?_ ?_
                                              rotate_left
                                              · intro w'
                                                go_simp
                                                with_reducible rfl
                                              rotate_left
                                              · simp only [Act.put, List.setIfInBounds_toArray, List.set_cons_zero, List.set_cons_succ, i64_w, i32_w]
                                                rfl
                                              refine pure_ (i := 11) (N := some 87) (v := ?_) (a' := ?_) #[true, true, true, true, true, true, true, true, true, true, true, true, false] rfl rfl (any_of HT_.out (by kernel_rfl)) (fun _ _ _ h => h) (Or.inl ⟨by rfl, ?_⟩) ?_ ?_
                                              rotate_left
                                              · intro w'
                                                go_simp
                                                with_reducible rfl
                                              rotate_left
                                              · simp only [Act.put, List.setIfInBounds_toArray, List.set_cons_zero, List.set_cons_succ, i64_w, i32_w]
                                                rfl
                                              refine last_ (i := 12) (N := none) #[true, true, true, true, true, true, true, true, true, true, true, true, true] rfl rfl (one_of HT_.out (by kernel_rfl)) (by decide) (fun K hK => ?_)
                                              refine skip_ (w1 := ?_) (by rfl) rfl ?_ ?_
                                              rotate_left
                                              · go_simp
                                                rfl
                                              refine hK.out _ _ ?_
                                              clear hK K
                                              refine done_ (done_of HT_.out (by kernel_rfl)) ?_
                                              have n0_ : Aside0 (Kd.R (Kd.int .i64) 3 (w43.setCell ⟨go23, (((rd_T74 l0 x14_3).f1) : Int).toNat, none⟩ (.int .i64 (wrap64 ((rd x10_3 ((rd_T74 l0 x14_3).f0)) + ((rd_T74 l0 x14_3).f3))))) w.heap.size (fun k_ => some k_ ≠ (v174 : Value).ownBlock) (.slice (some ⟨go23, 0, none⟩) x10_3.length co23) y185) := ⟨by (with_reducible repeat (first | apply Kd.R_alloc | apply Kd.R_drewN | apply Kd.R_drew)); exact HQ44.out⟩
                                              have n1_ : Aside0 (Kd.R (Kd.int .i64) 3 (w43.setCell ⟨go23, (((rd_T74 l0 x14_3).f1) : Int).toNat, none⟩ (.int .i64 (wrap64 ((rd x10_3 ((rd_T74 l0 x14_3).f0)) + ((rd_T74 l0 x14_3).f3))))) w.heap.size (fun k_ => some k_ ≠ (.slice (some ⟨go23, 0, none⟩) x10_3.length co23 : Value).ownBlock) v174 x11_3) := ⟨by (with_reducible repeat (first | apply Kd.R_alloc | apply Kd.R_drewN | apply Kd.R_drew)); exact Kd.R_mono (Kd.R_far (p := ⟨go23, (((rd_T74 l0 x14_3).f1) : Int).toNat, none⟩) (Kd.R_mono HO_11.out (fun k_ hk => (⟨hk, fun e_ => hk (by rw [e_]; rfl)⟩ : _ ∧ k_ ≠ go23))) (fun _ hk => hk.2) (.int .i64 (wrap64 ((rd x10_3 ((rd_T74 l0 x14_3).f0)) + ((rd_T74 l0 x14_3).f3))))) (fun _ hk => hk.1)⟩
                                              have n2_ : Aside0 ((w43.setCell ⟨go23, (((rd_T74 l0 x14_3).f1) : Int).toNat, none⟩ (.int .i64 (wrap64 ((rd x10_3 ((rd_T74 l0 x14_3).f0)) + ((rd_T74 l0 x14_3).f3))))).heap[gb180]? = some (.cells #[.int .i64 ((rd_T74 l0 x14_3).f0), .int .i64 ((rd_T74 l0 x14_3).f1), .int .i64 ((rd_T74 l0 x14_3).f2), .int .i64 ((rd_T74 l0 x14_3).f3)] 74 (0, 0))) := ⟨by (with_reducible repeat (first | refine blk_drewN ?_ _ | refine blk_drew ?_ | refine blk_alloc ?_ _)); refine blk_far ?_ (by have h_ := Kd.R_ne HO_10.out BK180.out (by decide); intro e_; exact h_ (by rw [e_]; rfl)) _; (with_reducible repeat (first | refine blk_drewN ?_ _ | refine blk_drew ?_ | refine blk_alloc ?_ _)); exact BK180.out⟩
                                              have n3_ : Aside0 (Below w.heap.size w (w43.setCell ⟨go23, (((rd_T74 l0 x14_3).f1) : Int).toNat, none⟩ (.int .i64 (wrap64 ((rd x10_3 ((rd_T74 l0 x14_3).f0)) + ((rd_T74 l0 x14_3).f3)))))) := ⟨by repeat (first | (with_reducible first | exact HB.out | apply below_alloc | apply pw_below_drewN | apply below_drew1 | refine below_set ?_ GB23.out | refine below_set ?_ GE180.out) | exact HB.out)⟩
                                              (try clear HO_10)
                                              (try clear HO_11)
                                              (try clear BK180)
                                              (try clear HB)
                                              generalize (w43.setCell ⟨go23, (((rd_T74 l0 x14_3).f1) : Int).toNat, none⟩ (.int .i64 (wrap64 ((rd x10_3 ((rd_T74 l0 x14_3).f0)) + ((rd_T74 l0 x14_3).f3))))) = w45 at n0_ n1_ n2_ n3_ ⊢
                                              have HO_10 := n0_
                                              have HO_11 := n1_
                                              have BK180 := n2_
                                              have HB := n3_
                                              clear n0_ n1_ n2_ n3_
                                              have hcz46_0 : w45.cell? ⟨gb180, 0, none⟩ = some (.int .i64 ((rd_T74 l0 x14_3).f0)) := (blk_cell BK180.out 0).trans rfl
                                              have hcz46_1 : w45.cell? ⟨gb180, 1, none⟩ = some (.int .i64 ((rd_T74 l0 x14_3).f1)) := (blk_cell BK180.out 1).trans rfl
                                              have hcz46_2 : w45.cell? ⟨gb180, 2, none⟩ = some (.int .i64 ((rd_T74 l0 x14_3).f2)) := (blk_cell BK180.out 2).trans rfl
                                              have hcz46_3 : w45.cell? ⟨gb180, 3, none⟩ = some (.int .i64 ((rd_T74 l0 x14_3).f3)) := (blk_cell BK180.out 3).trans rfl
                                              have hfz46_0 := blk_frozen BK180.out 0
                                              have hfz46_1 := blk_frozen BK180.out 1
                                              have hfz46_2 := blk_frozen BK180.out 2
                                              have hfz46_3 := blk_frozen BK180.out 3
                                              have p38 : 0 ≤ (((rd_T74 l0 x14_3).f1) : Int) := of_decide_eq_true (by first | (with_reducible assumption) | assumption)
                                              have q38 : (((rd_T74 l0 x14_3).f1) : Int) < ((x11_3.length : Int) : Int) := of_decide_eq_true (by first | (with_reducible assumption) | assumption)
                                              obtain ⟨go38, co38, eo38, gb38, gl38, cl38, HG38⟩ := Kd.R_form HO_11.out (by omega)
                                              (first | cases eo38 | (injection eo38 with ea_ en_ ec_; (first | subst ea_ | (injection ea_ with ea_; subst ea_)); subst ec_; clear en_))
                                              have GB38 := Aside0.mk gb38
                                              have GG38 := Aside0.mk HG38
                                              clear gb38 gl38 HG38
                                              obtain ⟨hx38_0, hf38_0⟩ := Kd.R_celln 0 HO_11.out (((rd_T74 l0 x14_3).f1) : Int) p38 q38
                                              replace p38 := eq_true p38
                                              replace q38 := eq_true q38
                                              obtain ⟨hy47_, hz47_⟩ := Kd.R_celln 0 HO_11.out (((rd_T74 l0 x14_3).f1) : Int) (of_decide_eq_true (by first | (with_reducible assumption) | assumption)) (of_decide_eq_true (by first | (with_reducible assumption) | assumption))
                                              have HP47 := Kd.R_putg HO_11.out (((rd_T74 l0 x14_3).f1) : Int) x14_3
                                              try go_wp2_with (first | ((with_reducible refine gate_store (t := 3) (p := 92) rfl ?_); refine store_event (t := 3) (p := 92) (v := ?vo_w48) (w1 := (w45.setCell ⟨go38, (((rd_T74 l0 x14_3).f1) : Int).toNat, none⟩ (.int .i64 x14_3))) ?hg ?ho ?hn ?hr ?_; (case ho => rfl); (case hg => rfl); (case hn => rfl); (case hr => first | (go_simp; done) | (go_simp; rfl)); intro w48 hw; have hg : w45.grownBy w48 (some go38) := (by rw [hw]; exact HP47.2); have hp_ : Kd.R (Kd.int .i64) 3 w48 w.heap.size (fun k_ => some k_ ≠ (.slice (some ⟨go23, 0, none⟩) x10_3.length co23 : Value).ownBlock) (.slice (some ⟨go38, 0, none⟩) x11_3.length co38) y186 := (by rw [hw, Ny186.out]; exact HP47.1); clear HP47; have n0_ := Aside0.mk (Kd.R_after (v := (.slice (some ⟨go38, 0, none⟩) x11_3.length co38)) (v1 := (.slice (some ⟨go38, 0, none⟩) x11_3.length co38)) (ok := (fun _ => True)) (by (with_reducible repeat (first | apply Kd.R_alloc | apply Kd.R_drewN | apply Kd.R_drew)); exact Kd.R_mono HO_10.out (fun _ hk => ⟨trivial, hk⟩)) hg (.inl rfl)); have n1_ := Aside0.mk (hp_); have n2_ := Aside0.mk (blk_grown (g := gb180) (o := .cells #[.int .i64 ((rd_T74 l0 x14_3).f0), .int .i64 ((rd_T74 l0 x14_3).f1), .int .i64 ((rd_T74 l0 x14_3).f2), .int .i64 ((rd_T74 l0 x14_3).f3)] 74 (0, 0)) (by (with_reducible repeat (first | refine blk_drewN ?_ _ | refine blk_drew ?_ | refine blk_alloc ?_ _)); exact BK180.out) hg (Kd.R_ne HO_11.out BK180.out (by decide))); have n3_ := Aside0.mk ((by rw [hw]; exact below_set (HB.out) GB38.out : Below w.heap.size w w48)); clear HO_10; clear HO_11; clear BK180; clear HB; have HO_10 := n0_; have HO_11 := n1_; have BK180 := n2_; have HB := n3_; clear n0_ n1_ n2_ n3_; clear hg hw hp_))
                                              (try simp only [← hl10_3])
                                              go_roundg k3
                                              case measure => have := HK1.out; have := HK2.out; have := HK3.out; omega
                                              case rel => exact ⟨(y185), (y186), (true), (wrap64 (x14_3 + 1)), (by first | rfl | (simp; done) | (simp [*]; done)), (by first | rfl | (simp; done) | (simp [*]; done)), H', ⟨by have := HK1.out; have := HK2.out; have := HK3.out; omega⟩, ⟨by (try simp only [hl10_2]); (try simp only [hl10_3]); (with_reducible repeat (first | apply Kd.R_alloc | apply Kd.R_drewN | apply Kd.R_drew)); exact Kd.R_mono HO_10.out (fun _ hk => hk.2)⟩, ⟨by (try simp only [hl10_2]); (try simp only [hl10_3]); (with_reducible repeat (first | apply Kd.R_alloc | apply Kd.R_drewN | apply Kd.R_drew)); exact HO_11.out⟩, ⟨by repeat (first | (with_reducible first | exact HB.out | apply below_alloc | apply pw_below_drewN | apply below_drew1 | refine below_set ?_ GE180.out) | exact HB.out)⟩⟩
                                            · rw [if_neg c37] at H
                                              exact absurd H (by simp)
                                          · rw [if_neg c35] at H
                                            have c35b0 : decide ((wrap64 ((rd x10_3 ((rd_T74 l0 x14_3).f0)) + ((rd_T74 l0 x14_3).f3))) < (rd x10_3 ((rd_T74 l0 x14_3).f1))) = false := decide_eq_false c35
                                            clear c35
                                            have H' := Aside0.mk H
                                            clear H
                                            have p179 : 0 ≤ (x14_3 : Int) := of_decide_eq_true (by first | (with_reducible assumption) | assumption)
                                            have q179 : x14_3 < (l0.length : Int) := of_decide_eq_true (by first | (with_reducible assumption) | assumption)
                                            obtain ⟨ad179, e179, hx179_0, hx179_1, hx179_2, hx179_3⟩ := at_T74 HR0.out x14_3 p179 q179
                                            cases e179
                                            replace hx179_0 := (HB.out.cell (World.block_lt_of_cell? w _ hx179_0)).trans hx179_0
                                            replace hx179_1 := (HB.out.cell (World.block_lt_of_cell? w _ hx179_1)).trans hx179_1
                                            replace hx179_2 := (HB.out.cell (World.block_lt_of_cell? w _ hx179_2)).trans hx179_2
                                            replace hx179_3 := (HB.out.cell (World.block_lt_of_cell? w _ hx179_3)).trans hx179_3
                                            replace p179 := eq_true p179
                                            replace q179 := eq_true q179
                                            try go_wp2_with (first | ((with_reducible refine gate_dst (N := 15) rfl ?_); refine box_event ?hg (N := 15) ?hd (cs := #[.int .i64 0, .int .i64 0, .int .i64 0, .int .i64 0]) (t := 74) ?hr ?_; (case hd => rfl); (case hg => rfl); (case hr => first | (go_simp; done) | (go_simp; rfl)); intro gb180 hg w49 hbox hb; have n0_ := Aside0.mk (Kd.R_below (by (with_reducible repeat (first | apply Kd.R_alloc | apply Kd.R_drewN | apply Kd.R_drew)); exact HO_10.out) hb); have n1_ := Aside0.mk (Kd.R_below (by (with_reducible repeat (first | apply Kd.R_alloc | apply Kd.R_drewN | apply Kd.R_drew)); exact HO_11.out) hb); have n2_ := Aside0.mk (below_step (by repeat (first | (with_reducible first | exact HB.out | apply below_alloc | apply pw_below_drewN | apply below_drew1) | exact HB.out)) hb); have n3_ := Aside0.mk (hbox); have n4_ := Aside0.mk ((by rw [hg]; exact (below_size (by repeat (first | (with_reducible first | exact HB.out | apply below_alloc | apply pw_below_drewN | apply below_drew1) | exact HB.out))) : w.heap.size ≤ gb180)); have n5_ := Aside0.mk ((by rw [hg]; exact (below_size (by repeat (first | (with_reducible first | exact HB.out | apply below_alloc | apply pw_below_drewN | apply below_drew1) | exact HB.out))) : w.heap.size ≤ gb180)); clear HO_10; clear HO_11; clear HB; have HO_10 := n0_; have HO_11 := n1_; have HB := n2_; have BK180 := n3_; have GW180 := n4_; have GE180 := n5_; clear n0_ n1_ n2_ n3_ n4_ n5_; clear hb hbox hg; have hcz50_0 : w49.cell? ⟨gb180, 0, none⟩ = some (.int .i64 0) := (blk_cell BK180.out 0).trans rfl; have hcz50_1 : w49.cell? ⟨gb180, 1, none⟩ = some (.int .i64 0) := (blk_cell BK180.out 1).trans rfl; have hcz50_2 : w49.cell? ⟨gb180, 2, none⟩ = some (.int .i64 0) := (blk_cell BK180.out 2).trans rfl; have hcz50_3 : w49.cell? ⟨gb180, 3, none⟩ = some (.int .i64 0) := (blk_cell BK180.out 3).trans rfl; have hfz50_0 := blk_frozen BK180.out 0; have hfz50_1 := blk_frozen BK180.out 1; have hfz50_2 := blk_frozen BK180.out 2; have hfz50_3 := blk_frozen BK180.out 3))
                                            have n0_ : Aside0 (Kd.R (Kd.int .i64) 3 ((((w49.setCell ⟨gb180, 0, none⟩ (.int .i64 ((rd_T74 l0 x14_3).f0))).setCell ⟨gb180, 1, none⟩ (.int .i64 ((rd_T74 l0 x14_3).f1))).setCell ⟨gb180, 2, none⟩ (.int .i64 ((rd_T74 l0 x14_3).f2))).setCell ⟨gb180, 3, none⟩ (.int .i64 ((rd_T74 l0 x14_3).f3))) w.heap.size (fun k_ => some k_ ≠ (v174 : Value).ownBlock) (.slice (some ⟨go23, 0, none⟩) x10_3.length co23) x10_3) := ⟨by (with_reducible repeat (first | apply Kd.R_alloc | apply Kd.R_drewN | apply Kd.R_drew)); exact Kd.R_mono (Kd.R_far (p := ⟨gb180, 3, none⟩) (Kd.R_far (p := ⟨gb180, 2, none⟩) (Kd.R_far (p := ⟨gb180, 1, none⟩) (Kd.R_far (p := ⟨gb180, 0, none⟩) (Kd.R_types HO_10.out BK180.out (by decide)) (fun _ hk => hk.2) (.int .i64 ((rd_T74 l0 x14_3).f0))) (fun _ hk => hk.2) (.int .i64 ((rd_T74 l0 x14_3).f1))) (fun _ hk => hk.2) (.int .i64 ((rd_T74 l0 x14_3).f2))) (fun _ hk => hk.2) (.int .i64 ((rd_T74 l0 x14_3).f3))) (fun _ hk => hk.1)⟩
                                            have n1_ : Aside0 (Kd.R (Kd.int .i64) 3 ((((w49.setCell ⟨gb180, 0, none⟩ (.int .i64 ((rd_T74 l0 x14_3).f0))).setCell ⟨gb180, 1, none⟩ (.int .i64 ((rd_T74 l0 x14_3).f1))).setCell ⟨gb180, 2, none⟩ (.int .i64 ((rd_T74 l0 x14_3).f2))).setCell ⟨gb180, 3, none⟩ (.int .i64 ((rd_T74 l0 x14_3).f3))) w.heap.size (fun k_ => some k_ ≠ (.slice (some ⟨go23, 0, none⟩) x10_3.length co23 : Value).ownBlock) v174 x11_3) := ⟨by (with_reducible repeat (first | apply Kd.R_alloc | apply Kd.R_drewN | apply Kd.R_drew)); exact Kd.R_mono (Kd.R_far (p := ⟨gb180, 3, none⟩) (Kd.R_far (p := ⟨gb180, 2, none⟩) (Kd.R_far (p := ⟨gb180, 1, none⟩) (Kd.R_far (p := ⟨gb180, 0, none⟩) (Kd.R_types HO_11.out BK180.out (by decide)) (fun _ hk => hk.2) (.int .i64 ((rd_T74 l0 x14_3).f0))) (fun _ hk => hk.2) (.int .i64 ((rd_T74 l0 x14_3).f1))) (fun _ hk => hk.2) (.int .i64 ((rd_T74 l0 x14_3).f2))) (fun _ hk => hk.2) (.int .i64 ((rd_T74 l0 x14_3).f3))) (fun _ hk => hk.1)⟩
                                            have n2_ : Aside0 (((((w49.setCell ⟨gb180, 0, none⟩ (.int .i64 ((rd_T74 l0 x14_3).f0))).setCell ⟨gb180, 1, none⟩ (.int .i64 ((rd_T74 l0 x14_3).f1))).setCell ⟨gb180, 2, none⟩ (.int .i64 ((rd_T74 l0 x14_3).f2))).setCell ⟨gb180, 3, none⟩ (.int .i64 ((rd_T74 l0 x14_3).f3))).heap[gb180]? = some (.cells #[.int .i64 ((rd_T74 l0 x14_3).f0), .int .i64 ((rd_T74 l0 x14_3).f1), .int .i64 ((rd_T74 l0 x14_3).f2), .int .i64 ((rd_T74 l0 x14_3).f3)] 74 (0, 0))) := ⟨by (with_reducible repeat (first | refine blk_drewN ?_ _ | refine blk_drew ?_ | refine blk_alloc ?_ _)); refine blk_put (cs := #[.int .i64 ((rd_T74 l0 x14_3).f0), .int .i64 ((rd_T74 l0 x14_3).f1), .int .i64 ((rd_T74 l0 x14_3).f2), .int .i64 0]) ?_ 3 _ rfl; (with_reducible repeat (first | refine blk_drewN ?_ _ | refine blk_drew ?_ | refine blk_alloc ?_ _)); refine blk_put (cs := #[.int .i64 ((rd_T74 l0 x14_3).f0), .int .i64 ((rd_T74 l0 x14_3).f1), .int .i64 0, .int .i64 0]) ?_ 2 _ rfl; (with_reducible repeat (first | refine blk_drewN ?_ _ | refine blk_drew ?_ | refine blk_alloc ?_ _)); refine blk_put (cs := #[.int .i64 ((rd_T74 l0 x14_3).f0), .int .i64 0, .int .i64 0, .int .i64 0]) ?_ 1 _ rfl; (with_reducible repeat (first | refine blk_drewN ?_ _ | refine blk_drew ?_ | refine blk_alloc ?_ _)); refine blk_put (cs := #[.int .i64 0, .int .i64 0, .int .i64 0, .int .i64 0]) ?_ 0 _ rfl; (with_reducible repeat (first | refine blk_drewN ?_ _ | refine blk_drew ?_ | refine blk_alloc ?_ _)); exact BK180.out⟩
                                            have n3_ : Aside0 (Below w.heap.size w ((((w49.setCell ⟨gb180, 0, none⟩ (.int .i64 ((rd_T74 l0 x14_3).f0))).setCell ⟨gb180, 1, none⟩ (.int .i64 ((rd_T74 l0 x14_3).f1))).setCell ⟨gb180, 2, none⟩ (.int .i64 ((rd_T74 l0 x14_3).f2))).setCell ⟨gb180, 3, none⟩ (.int .i64 ((rd_T74 l0 x14_3).f3)))) := ⟨by repeat (first | (with_reducible first | exact HB.out | apply below_alloc | apply pw_below_drewN | apply below_drew1 | refine below_set ?_ GE180.out) | exact HB.out)⟩
                                            (try clear HO_10)
                                            (try clear HO_11)
                                            (try clear BK180)
                                            (try clear HB)
                                            generalize ((((w49.setCell ⟨gb180, 0, none⟩ (.int .i64 ((rd_T74 l0 x14_3).f0))).setCell ⟨gb180, 1, none⟩ (.int .i64 ((rd_T74 l0 x14_3).f1))).setCell ⟨gb180, 2, none⟩ (.int .i64 ((rd_T74 l0 x14_3).f2))).setCell ⟨gb180, 3, none⟩ (.int .i64 ((rd_T74 l0 x14_3).f3))) = w51 at n0_ n1_ n2_ n3_ ⊢
                                            have HO_10 := n0_
                                            have HO_11 := n1_
                                            have BK180 := n2_
                                            have HB := n3_
                                            clear n0_ n1_ n2_ n3_
                                            have n0_ := Aside0.mk (Kd.R_drew HO_10.out)
                                            have n1_ := Aside0.mk (Kd.R_drew HO_11.out)
                                            have n2_ := Aside0.mk (blk_drew BK180.out)
                                            have n3_ := Aside0.mk (below_drew1 HB.out)
                                            clear HO_10
                                            clear HO_11
                                            clear BK180
                                            clear HB
                                            have HO_10 := n0_
                                            have HO_11 := n1_
                                            have BK180 := n2_
                                            have HB := n3_
                                            clear n0_ n1_ n2_ n3_
                                            have p181 : 0 ≤ (((rd_T74 l0 x14_3).f0) : Int) := of_decide_eq_true (by first | (with_reducible assumption) | assumption)
                                            have q181 : ((rd_T74 l0 x14_3).f0) < (x10_3.length : Int) := of_decide_eq_true (by first | (with_reducible assumption) | assumption)
                                            obtain ⟨ad181, e181, hx181_0⟩ := Kd.at_int (Kd.R_reads' HO_10.out).2.2 ((rd_T74 l0 x14_3).f0) p181 q181
                                            obtain rfl : (⟨go23, 0, none⟩ : Addr) = ad181 := (by injection e181)
                                            (first | simp only [add_plain] at hx181_0 | simp only [add_at] at hx181_0 | simp only [Addr.add, Nat.zero_add] at hx181_0 | skip)
                                            replace p181 := eq_true p181
                                            replace q181 := eq_true q181
                                            have p182 : 0 ≤ (((rd_T74 l0 x14_3).f0) : Int) := of_decide_eq_true (by first | (with_reducible assumption) | assumption)
                                            have q182 : ((rd_T74 l0 x14_3).f0) < (x10_3.length : Int) := of_decide_eq_true (by first | (with_reducible assumption) | assumption)
                                            obtain ⟨ad182, e182, hx182_0⟩ := Kd.at_int (Kd.R_reads' HO_10.out).2.2 ((rd_T74 l0 x14_3).f0) p182 q182
                                            obtain rfl : (⟨go23, 0, none⟩ : Addr) = ad182 := (by injection e182)
                                            (first | simp only [add_plain] at hx182_0 | simp only [add_at] at hx182_0 | simp only [Addr.add, Nat.zero_add] at hx182_0 | skip)
                                            replace p182 := eq_true p182
                                            replace q182 := eq_true q182
                                            have p183 : 0 ≤ (((rd_T74 l0 x14_3).f1) : Int) := of_decide_eq_true (by first | (with_reducible assumption) | assumption)
                                            have q183 : ((rd_T74 l0 x14_3).f1) < (x10_3.length : Int) := of_decide_eq_true (by first | (with_reducible assumption) | assumption)
                                            obtain ⟨ad183, e183, hx183_0⟩ := Kd.at_int (Kd.R_reads' HO_10.out).2.2 ((rd_T74 l0 x14_3).f1) p183 q183
                                            obtain rfl : (⟨go23, 0, none⟩ : Addr) = ad183 := (by injection e183)
                                            (first | simp only [add_plain] at hx183_0 | simp only [add_at] at hx183_0 | simp only [Addr.add, Nat.zero_add] at hx183_0 | skip)
                                            replace p183 := eq_true p183
                                            replace q183 := eq_true q183
                                            refine start_ (n := 27) (S := fun w' => w'.cell? ⟨gb180, 0, none⟩ = some (.int .i64 ((rd_T74 l0 x14_3).f0)) ∧ w'.cell? ⟨gb180, 1, none⟩ = some (.int .i64 ((rd_T74 l0 x14_3).f1)) ∧ w'.cell? ⟨gb180, 2, none⟩ = some (.int .i64 ((rd_T74 l0 x14_3).f2)) ∧ w'.cell? ⟨gb180, 3, none⟩ = some (.int .i64 ((rd_T74 l0 x14_3).f3)) ∧ w'.cell? ⟨go23, (((rd_T74 l0 x14_3).f0)).toNat, none⟩ = some (.int .i64 (rd x10_3 ((rd_T74 l0 x14_3).f0))) ∧ w'.cell? ⟨go23, (((rd_T74 l0 x14_3).f0)).toNat, none⟩ = some (.int .i64 (rd x10_3 ((rd_T74 l0 x14_3).f0))) ∧ w'.cell? ⟨go23, (((rd_T74 l0 x14_3).f1)).toNat, none⟩ = some (.int .i64 (rd x10_3 ((rd_T74 l0 x14_3).f1)))) (ds := []) #[false, false, false, false, false, false, false, false, false, false, false, false, false, false, false, false, false, false, false, false, false, false, false, false, false, false, false] (by kernel_rfl) rfl rfl ⟨(blk_cell BK180.out 0).trans rfl, (blk_cell BK180.out 1).trans rfl, (blk_cell BK180.out 2).trans rfl, (blk_cell BK180.out 3).trans rfl, hx181_0, hx182_0, hx183_0⟩ (fun hHeld => ?_); refine with_tabW turndownref08_shortest.tab16 turndownref08_shortest.bits16 (fun HT_ HW_ => ?_)
                                            generalize w51.drew = w52 at HO_10 HO_11 BK180 HB hx181_0 hx182_0 hx183_0 hHeld ⊢
                                            refine pure_ (i := 0) (N := some 49) (v := ?_) (a' := ?_) #[true, false, false, false, false, false, false, false, false, false, false, false, false, false, false, false, false, false, false, false, false, false, false, false, false, false, false] rfl rfl (any_of HT_.out (by kernel_rfl)) (fun _ _ _ h => h) (Or.inl ⟨by rfl, ?_⟩) ?_ ?_
                                            rotate_left
                                            · intro w'
                                              go_simp
                                              with_reducible rfl
                                            rotate_left
                                            · simp only [Act.put, List.setIfInBounds_toArray, List.set_cons_zero, List.set_cons_succ, i64_w, i32_w]
                                              rfl
                                            refine take_ (i := 1) (N := some 50) (v := ?_) (a' := ?_) #[true, true, false, false, false, false, false, false, false, false, false, false, false, false, false, false, false, false, false, false, false, false, false, false, false, false, false] rfl rfl (take_ofW HT_.out HW_.out (by kernel_rfl)) (fun _ _ _ h => h) (Or.inl ⟨by rfl, ?_⟩) hHeld ?_ ?_
                                            rotate_left
                                            · rintro w' ⟨s0, s1, s2, s3, s4, s5, s6⟩
                                              go_simp
                                              with_reducible rfl
                                            rotate_left
                                            · simp only [Act.put, List.setIfInBounds_toArray, List.set_cons_zero, List.set_cons_succ, i64_w, i32_w]
                                              rfl
                                            refine pure_ (i := 2) (N := some 51) (v := ?_) (a' := ?_) #[true, true, true, false, false, false, false, false, false, false, false, false, false, false, false, false, false, false, false, false, false, false, false, false, false, false, false] rfl rfl (any_of HT_.out (by kernel_rfl)) (fun _ _ _ h => h) (Or.inl ⟨by rfl, ?_⟩) ?_ ?_
                                            rotate_left
                                            · intro w'
                                              go_simp
                                              with_reducible rfl
                                            rotate_left
                                            · simp only [Act.put, List.setIfInBounds_toArray, List.set_cons_zero, List.set_cons_succ, i64_w, i32_w]
                                              rfl
                                            refine pure_ (i := 3) (N := some 52) (v := ?_) (a' := ?_) #[true, true, true, true, false, false, false, false, false, false, false, false, false, false, false, false, false, false, false, false, false, false, false, false, false, false, false] rfl rfl (any_of HT_.out (by kernel_rfl)) (fun _ _ _ h => h) (Or.inl ⟨by rfl, ?_⟩) ?_ ?_
                                            rotate_left
                                            · intro w'
                                              go_simp
                                              with_reducible rfl
                                            rotate_left
                                            · simp only [Act.put, List.setIfInBounds_toArray, List.set_cons_zero, List.set_cons_succ, i64_w, i32_w]
                                              rfl
                                            refine pure_ (i := 4) (N := some 53) (v := ?_) (a' := ?_) #[true, true, true, true, true, false, false, false, false, false, false, false, false, false, false, false, false, false, false, false, false, false, false, false, false, false, false] rfl rfl (any_of HT_.out (by kernel_rfl)) (fun _ _ _ h => h) (Or.inl ⟨by rfl, ?_⟩) ?_ ?_
                                            rotate_left
                                            · intro w'
                                              go_simp
                                              with_reducible rfl
                                            rotate_left
                                            · simp only [Act.put, List.setIfInBounds_toArray, List.set_cons_zero, List.set_cons_succ, i64_w, i32_w]
                                              rfl
                                            refine pure_ (i := 5) (N := some 54) (v := ?_) (a' := ?_) #[true, true, true, true, true, true, false, false, false, false, false, false, false, false, false, false, false, false, false, false, false, false, false, false, false, false, false] rfl rfl (any_of HT_.out (by kernel_rfl)) (fun _ _ _ h => h) (Or.inl ⟨by rfl, ?_⟩) ?_ ?_
                                            rotate_left
                                            · intro w'
                                              go_simp
                                              with_reducible rfl
                                            rotate_left
                                            · simp only [Act.put, List.setIfInBounds_toArray, List.set_cons_zero, List.set_cons_succ, i64_w, i32_w]
                                              rfl
                                            refine take_ (i := 6) (N := some 55) (v := ?_) (a' := ?_) #[true, true, true, true, true, true, true, false, false, false, false, false, false, false, false, false, false, false, false, false, false, false, false, false, false, false, false] rfl rfl (take_ofW HT_.out HW_.out (by kernel_rfl)) (fun _ _ _ h => h) (Or.inl ⟨by rfl, ?_⟩) hHeld ?_ ?_
                                            rotate_left
                                            · rintro w' ⟨s0, s1, s2, s3, s4, s5, s6⟩
                                              go_simp
                                              with_reducible rfl
                                            rotate_left
                                            · simp only [Act.put, List.setIfInBounds_toArray, List.set_cons_zero, List.set_cons_succ, i64_w, i32_w]
                                              rfl
                                            refine pure_ (i := 7) (N := some 56) (v := ?_) (a' := ?_) #[true, true, true, true, true, true, true, true, false, false, false, false, false, false, false, false, false, false, false, false, false, false, false, false, false, false, false] rfl rfl (any_of HT_.out (by kernel_rfl)) (fun _ _ _ h => h) (Or.inl ⟨by rfl, ?_⟩) ?_ ?_
                                            rotate_left
                                            · intro w'
                                              go_simp
                                              with_reducible rfl
                                            rotate_left
                                            · simp only [Act.put, List.setIfInBounds_toArray, List.set_cons_zero, List.set_cons_succ, i64_w, i32_w]
                                              rfl
                                            refine take_ (i := 8) (N := some 57) (v := ?_) (a' := ?_) #[true, true, true, true, true, true, true, true, true, false, false, false, false, false, false, false, false, false, false, false, false, false, false, false, false, false, false] rfl rfl (take_ofW HT_.out HW_.out (by kernel_rfl)) (fun _ _ _ h => h) (Or.inl ⟨by rfl, ?_⟩) hHeld ?_ ?_
                                            rotate_left
                                            · rintro w' ⟨s0, s1, s2, s3, s4, s5, s6⟩
                                              go_simp
                                              with_reducible rfl
                                            rotate_left
                                            · simp only [Act.put, List.setIfInBounds_toArray, List.set_cons_zero, List.set_cons_succ, i64_w, i32_w]
                                              rfl
                                            refine pure_ (i := 9) (N := some 58) (v := ?_) (a' := ?_) #[true, true, true, true, true, true, true, true, true, true, false, false, false, false, false, false, false, false, false, false, false, false, false, false, false, false, false] rfl rfl (any_of HT_.out (by kernel_rfl)) (fun _ _ _ h => h) (Or.inl ⟨by rfl, ?_⟩) ?_ ?_
                                            rotate_left
                                            · intro w'
                                              go_simp
                                              with_reducible rfl
                                            rotate_left
                                            · simp only [Act.put, List.setIfInBounds_toArray, List.set_cons_zero, List.set_cons_succ, i64_w, i32_w]
                                              rfl
                                            refine pure_ (i := 10) (N := some 59) (v := ?_) (a' := ?_) #[true, true, true, true, true, true, true, true, true, true, true, false, false, false, false, false, false, false, false, false, false, false, false, false, false, false, false] rfl rfl (any_of HT_.out (by kernel_rfl)) (fun _ _ _ h => h) (Or.inl ⟨by rfl, ?_⟩) ?_ ?_
                                            rotate_left
                                            · intro w'
                                              go_simp
                                              with_reducible rfl
                                            rotate_left
                                            · simp only [Act.put, List.setIfInBounds_toArray, List.set_cons_zero, List.set_cons_succ, i64_w, i32_w]
                                              rfl
                                            refine pure_ (i := 11) (N := some 60) (v := ?_) (a' := ?_) #[true, true, true, true, true, true, true, true, true, true, true, true, false, false, false, false, false, false, false, false, false, false, false, false, false, false, false] rfl rfl (any_of HT_.out (by kernel_rfl)) (fun _ _ _ h => h) (Or.inl ⟨by rfl, ?_⟩) ?_ ?_
                                            rotate_left
                                            · intro w'
                                              go_simp
                                              with_reducible rfl
                                            rotate_left
                                            · simp only [Act.put, List.setIfInBounds_toArray, List.set_cons_zero, List.set_cons_succ, i64_w, i32_w]
                                              rfl
                                            refine pure_ (i := 12) (N := some 61) (v := ?_) (a' := ?_) #[true, true, true, true, true, true, true, true, true, true, true, true, true, false, false, false, false, false, false, false, false, false, false, false, false, false, false] rfl rfl (any_of HT_.out (by kernel_rfl)) (fun _ _ _ h => h) (Or.inl ⟨by rfl, ?_⟩) ?_ ?_
                                            rotate_left
                                            · intro w'
                                              go_simp
                                              with_reducible rfl
                                            rotate_left
                                            · simp only [Act.put, List.setIfInBounds_toArray, List.set_cons_zero, List.set_cons_succ, i64_w, i32_w]
                                              rfl
                                            refine pure_ (i := 13) (N := some 62) (v := ?_) (a' := ?_) #[true, true, true, true, true, true, true, true, true, true, true, true, true, true, false, false, false, false, false, false, false, false, false, false, false, false, false] rfl rfl (any_of HT_.out (by kernel_rfl)) (fun _ _ _ h => h) (Or.inl ⟨by rfl, ?_⟩) ?_ ?_
                                            rotate_left
                                            · intro w'
                                              go_simp
                                              with_reducible rfl
                                            rotate_left
                                            · simp only [Act.put, List.setIfInBounds_toArray, List.set_cons_zero, List.set_cons_succ, i64_w, i32_w]
                                              rfl
                                            refine pure_ (i := 17) (N := some 66) (v := ?_) (a' := ?_) #[true, true, true, true, true, true, true, true, true, true, true, true, true, true, false, false, false, true, false, false, false, false, false, false, false, false, false] rfl rfl (any_of HT_.out (by kernel_rfl)) (fun _ _ _ h => h) (Or.inl ⟨by rfl, ?_⟩) ?_ ?_
                                            rotate_left
                                            · intro w'
                                              go_simp
                                              with_reducible rfl
                                            rotate_left
                                            · simp only [Act.put, List.setIfInBounds_toArray, List.set_cons_zero, List.set_cons_succ, i64_w, i32_w]
                                              rfl
                                            refine pure_ (i := 20) (N := some 69) (v := ?_) (a' := ?_) #[true, true, true, true, true, true, true, true, true, true, true, true, true, true, false, false, false, true, false, false, true, false, false, false, false, false, false] rfl rfl (any_of HT_.out (by kernel_rfl)) (fun _ _ _ h => h) (Or.inl ⟨by rfl, ?_⟩) ?_ ?_
                                            rotate_left
                                            · intro w'
                                              go_simp
                                              with_reducible rfl
                                            rotate_left
                                            · simp only [Act.put, List.setIfInBounds_toArray, List.set_cons_zero, List.set_cons_succ, i64_w, i32_w]
                                              rfl
                                            refine pure_ (i := 21) (N := some 70) (v := ?_) (a' := ?_) #[true, true, true, true, true, true, true, true, true, true, true, true, true, true, false, false, false, true, false, false, true, true, false, false, false, false, false] rfl rfl (any_of HT_.out (by kernel_rfl)) (fun _ _ _ h => h) (Or.inl ⟨by rfl, ?_⟩) ?_ ?_
                                            rotate_left
                                            · intro w'
                                              go_simp
                                              with_reducible rfl
                                            rotate_left
                                            · simp only [Act.put, List.setIfInBounds_toArray, List.set_cons_zero, List.set_cons_succ, i64_w, i32_w]
                                              rfl
                                            refine take_ (i := 14) (N := some 63) (v := ?_) (a' := ?_) #[true, true, true, true, true, true, true, true, true, true, true, true, true, true, true, false, false, true, false, false, true, true, false, false, false, false, false] rfl rfl (take_ofW HT_.out HW_.out (by kernel_rfl)) (fun _ _ _ h => h) (Or.inl ⟨by rfl, ?_⟩) hHeld ?_ ?_
                                            rotate_left
                                            · rintro w' ⟨s0, s1, s2, s3, s4, s5, s6⟩
                                              go_simp
                                              with_reducible rfl
                                            rotate_left
                                            · simp only [Act.put, List.setIfInBounds_toArray, List.set_cons_zero, List.set_cons_succ, i64_w, i32_w]
                                              rfl
                                            refine pure_ (i := 15) (N := some 64) (v := ?_) (a' := ?_) #[true, true, true, true, true, true, true, true, true, true, true, true, true, true, true, true, false, true, false, false, true, true, false, false, false, false, false] rfl rfl (any_of HT_.out (by kernel_rfl)) (fun _ _ _ h => h) (Or.inl ⟨by rfl, ?_⟩) ?_ ?_
                                            rotate_left
                                            · intro w'
                                              go_simp
                                              with_reducible rfl
                                            rotate_left
                                            · simp only [Act.put, List.setIfInBounds_toArray, List.set_cons_zero, List.set_cons_succ, i64_w, i32_w]
                                              rfl
                                            refine take_ (i := 16) (N := some 65) (v := ?_) (a' := ?_) #[true, true, true, true, true, true, true, true, true, true, true, true, true, true, true, true, true, true, false, false, true, true, false, false, false, false, false] rfl rfl (take_ofW HT_.out HW_.out (by kernel_rfl)) (fun _ _ _ h => h) (Or.inl ⟨by rfl, ?_⟩) hHeld ?_ ?_
                                            rotate_left
                                            · rintro w' ⟨s0, s1, s2, s3, s4, s5, s6⟩
                                              go_simp
                                              with_reducible rfl
                                            rotate_left
                                            · simp only [Act.put, List.setIfInBounds_toArray, List.set_cons_zero, List.set_cons_succ, i64_w, i32_w]
                                              rfl
                                            refine take_ (i := 18) (N := some 67) (v := ?_) (a' := ?_) #[true, true, true, true, true, true, true, true, true, true, true, true, true, true, true, true, true, true, true, false, true, true, false, false, false, false, false] rfl rfl (take_ofW HT_.out HW_.out (by kernel_rfl)) (fun _ _ _ h => h) (Or.inl ⟨by rfl, ?_⟩) hHeld ?_ ?_
                                            rotate_left
                                            · rintro w' ⟨s0, s1, s2, s3, s4, s5, s6⟩
                                              go_simp
                                              with_reducible rfl
                                            rotate_left
                                            · simp only [Act.put, List.setIfInBounds_toArray, List.set_cons_zero, List.set_cons_succ, i64_w, i32_w]
                                              rfl
                                            refine pure_ (i := 19) (N := some 68) (v := ?_) (a' := ?_) #[true, true, true, true, true, true, true, true, true, true, true, true, true, true, true, true, true, true, true, true, true, true, false, false, false, false, false] rfl rfl (any_of HT_.out (by kernel_rfl)) (fun _ _ _ h => h) (Or.inl ⟨by rfl, ?_⟩) ?_ ?_
                                            rotate_left
                                            · intro w'
                                              go_simp
                                              with_reducible rfl
                                            rotate_left
                                            · simp only [Act.put, List.setIfInBounds_toArray, List.set_cons_zero, List.set_cons_succ, i64_w, i32_w]
                                              rfl
                                            refine take_ (i := 22) (N := some 71) (v := ?_) (a' := ?_) #[true, true, true, true, true, true, true, true, true, true, true, true, true, true, true, true, true, true, true, true, true, true, true, false, false, false, false] rfl rfl (take_ofW HT_.out HW_.out (by kernel_rfl)) (fun _ _ _ h => h) (Or.inl ⟨by rfl, ?_⟩) hHeld ?_ ?_
                                            rotate_left
                                            · rintro w' ⟨s0, s1, s2, s3, s4, s5, s6⟩
                                              go_simp
                                              with_reducible rfl
                                            rotate_left
                                            · simp only [Act.put, List.setIfInBounds_toArray, List.set_cons_zero, List.set_cons_succ, i64_w, i32_w]
                                              rfl
                                            refine pure_ (i := 23) (N := some 72) (v := ?_) (a' := ?_) #[true, true, true, true, true, true, true, true, true, true, true, true, true, true, true, true, true, true, true, true, true, true, true, true, false, false, false] rfl rfl (any_of HT_.out (by kernel_rfl)) (fun _ _ _ h => h) (Or.inl ⟨by rfl, ?_⟩) ?_ ?_
                                            rotate_left
                                            · intro w'
                                              go_simp
                                              with_reducible rfl
                                            rotate_left
                                            · simp only [Act.put, List.setIfInBounds_toArray, List.set_cons_zero, List.set_cons_succ, i64_w, i32_w]
                                              rfl
                                            refine take_ (i := 24) (N := some 73) (v := ?_) (a' := ?_) #[true, true, true, true, true, true, true, true, true, true, true, true, true, true, true, true, true, true, true, true, true, true, true, true, true, false, false] rfl rfl (take_ofW HT_.out HW_.out (by kernel_rfl)) (fun _ _ _ h => h) (Or.inl ⟨by rfl, ?_⟩) hHeld ?_ ?_
                                            rotate_left
                                            · rintro w' ⟨s0, s1, s2, s3, s4, s5, s6⟩
                                              go_simp
                                              with_reducible rfl
                                            rotate_left
                                            · simp only [Act.put, List.setIfInBounds_toArray, List.set_cons_zero, List.set_cons_succ, i64_w, i32_w]
                                              rfl
                                            refine pure_ (i := 25) (N := some 74) (v := ?_) (a' := ?_) #[true, true, true, true, true, true, true, true, true, true, true, true, true, true, true, true, true, true, true, true, true, true, true, true, true, true, false] rfl rfl (any_of HT_.out (by kernel_rfl)) (fun _ _ _ h => h) (Or.inl ⟨by rfl, ?_⟩) ?_ ?_
                                            rotate_left
                                            · intro w'
                                              go_simp
                                              with_reducible rfl
                                            rotate_left
                                            · simp only [Act.put, List.setIfInBounds_toArray, List.set_cons_zero, List.set_cons_succ, i64_w, i32_w]
                                              rfl
                                            refine pure_ (i := 26) (N := some 75) (v := ?_) (a' := ?_) #[true, true, true, true, true, true, true, true, true, true, true, true, true, true, true, true, true, true, true, true, true, true, true, true, true, true, true] rfl rfl (any_of HT_.out (by kernel_rfl)) (fun _ _ _ h => h) (Or.inl ⟨by rfl, ?_⟩) ?_ ?_
                                            rotate_left
                                            · intro w'
                                              go_simp
                                              with_reducible rfl
                                            rotate_left
                                            · simp only [Act.put, List.setIfInBounds_toArray, List.set_cons_zero, List.set_cons_succ, i64_w, i32_w]
                                              rfl
                                            refine done_ (done_of HT_.out (by kernel_rfl)) ?_
                                            try go_wp2
                                            (try simp only [← hl10_3])
                                            go_roundg k3
                                            case measure => have := HK1.out; have := HK2.out; have := HK3.out; omega
                                            case rel => exact ⟨(x10_3), (x11_3), (x13_3), (wrap64 (x14_3 + 1)), (by first | rfl | (simp; done) | (simp [*]; done)), (by first | rfl | (simp; done) | (simp [*]; done)), H', ⟨by have := HK1.out; have := HK2.out; have := HK3.out; omega⟩, ⟨by (try simp only [hl10_2]); (try simp only [hl10_3]); (with_reducible repeat (first | apply Kd.R_alloc | apply Kd.R_drewN | apply Kd.R_drew)); exact HO_10.out⟩, ⟨by (try simp only [hl10_2]); (try simp only [hl10_3]); (with_reducible repeat (first | apply Kd.R_alloc | apply Kd.R_drewN | apply Kd.R_drew)); exact HO_11.out⟩, ⟨by repeat (first | (with_reducible first | exact HB.out | apply below_alloc | apply pw_below_drewN | apply below_drew1 | refine below_set ?_ GE180.out) | exact HB.out)⟩⟩
                                        · rw [if_neg c34] at H
                                          exact absurd H (by simp)
                                      · rw [if_neg c33] at H
                                        exact absurd H (by simp)
                                    · rw [if_neg c32] at H
                                      have c32b0 : decide ((rd x10_3 ((rd_T74 l0 x14_3).f0)) < 1152921504606846976) = false := decide_eq_false c32
                                      clear c32
                                      have H' := Aside0.mk H
                                      clear H
                                      have p179 : 0 ≤ (x14_3 : Int) := of_decide_eq_true (by first | (with_reducible assumption) | assumption)
                                      have q179 : x14_3 < (l0.length : Int) := of_decide_eq_true (by first | (with_reducible assumption) | assumption)
                                      obtain ⟨ad179, e179, hx179_0, hx179_1, hx179_2, hx179_3⟩ := at_T74 HR0.out x14_3 p179 q179
                                      cases e179
                                      replace hx179_0 := (HB.out.cell (World.block_lt_of_cell? w _ hx179_0)).trans hx179_0
                                      replace hx179_1 := (HB.out.cell (World.block_lt_of_cell? w _ hx179_1)).trans hx179_1
                                      replace hx179_2 := (HB.out.cell (World.block_lt_of_cell? w _ hx179_2)).trans hx179_2
                                      replace hx179_3 := (HB.out.cell (World.block_lt_of_cell? w _ hx179_3)).trans hx179_3
                                      replace p179 := eq_true p179
                                      replace q179 := eq_true q179
                                      try go_wp2_with (first | ((with_reducible refine gate_dst (N := 15) rfl ?_); refine box_event ?hg (N := 15) ?hd (cs := #[.int .i64 0, .int .i64 0, .int .i64 0, .int .i64 0]) (t := 74) ?hr ?_; (case hd => rfl); (case hg => rfl); (case hr => first | (go_simp; done) | (go_simp; rfl)); intro gb180 hg w53 hbox hb; have n0_ := Aside0.mk (Kd.R_below (by (with_reducible repeat (first | apply Kd.R_alloc | apply Kd.R_drewN | apply Kd.R_drew)); exact HO_10.out) hb); have n1_ := Aside0.mk (Kd.R_below (by (with_reducible repeat (first | apply Kd.R_alloc | apply Kd.R_drewN | apply Kd.R_drew)); exact HO_11.out) hb); have n2_ := Aside0.mk (below_step (by repeat (first | (with_reducible first | exact HB.out | apply below_alloc | apply pw_below_drewN | apply below_drew1) | exact HB.out)) hb); have n3_ := Aside0.mk (hbox); have n4_ := Aside0.mk ((by rw [hg]; exact (below_size (by repeat (first | (with_reducible first | exact HB.out | apply below_alloc | apply pw_below_drewN | apply below_drew1) | exact HB.out))) : w.heap.size ≤ gb180)); have n5_ := Aside0.mk ((by rw [hg]; exact (below_size (by repeat (first | (with_reducible first | exact HB.out | apply below_alloc | apply pw_below_drewN | apply below_drew1) | exact HB.out))) : w.heap.size ≤ gb180)); clear HO_10; clear HO_11; clear HB; have HO_10 := n0_; have HO_11 := n1_; have HB := n2_; have BK180 := n3_; have GW180 := n4_; have GE180 := n5_; clear n0_ n1_ n2_ n3_ n4_ n5_; clear hb hbox hg; have hcz54_0 : w53.cell? ⟨gb180, 0, none⟩ = some (.int .i64 0) := (blk_cell BK180.out 0).trans rfl; have hcz54_1 : w53.cell? ⟨gb180, 1, none⟩ = some (.int .i64 0) := (blk_cell BK180.out 1).trans rfl; have hcz54_2 : w53.cell? ⟨gb180, 2, none⟩ = some (.int .i64 0) := (blk_cell BK180.out 2).trans rfl; have hcz54_3 : w53.cell? ⟨gb180, 3, none⟩ = some (.int .i64 0) := (blk_cell BK180.out 3).trans rfl; have hfz54_0 := blk_frozen BK180.out 0; have hfz54_1 := blk_frozen BK180.out 1; have hfz54_2 := blk_frozen BK180.out 2; have hfz54_3 := blk_frozen BK180.out 3))
                                      have n0_ : Aside0 (Kd.R (Kd.int .i64) 3 ((((w53.setCell ⟨gb180, 0, none⟩ (.int .i64 ((rd_T74 l0 x14_3).f0))).setCell ⟨gb180, 1, none⟩ (.int .i64 ((rd_T74 l0 x14_3).f1))).setCell ⟨gb180, 2, none⟩ (.int .i64 ((rd_T74 l0 x14_3).f2))).setCell ⟨gb180, 3, none⟩ (.int .i64 ((rd_T74 l0 x14_3).f3))) w.heap.size (fun k_ => some k_ ≠ (v174 : Value).ownBlock) (.slice (some ⟨go23, 0, none⟩) x10_3.length co23) x10_3) := ⟨by (with_reducible repeat (first | apply Kd.R_alloc | apply Kd.R_drewN | apply Kd.R_drew)); exact Kd.R_mono (Kd.R_far (p := ⟨gb180, 3, none⟩) (Kd.R_far (p := ⟨gb180, 2, none⟩) (Kd.R_far (p := ⟨gb180, 1, none⟩) (Kd.R_far (p := ⟨gb180, 0, none⟩) (Kd.R_types HO_10.out BK180.out (by decide)) (fun _ hk => hk.2) (.int .i64 ((rd_T74 l0 x14_3).f0))) (fun _ hk => hk.2) (.int .i64 ((rd_T74 l0 x14_3).f1))) (fun _ hk => hk.2) (.int .i64 ((rd_T74 l0 x14_3).f2))) (fun _ hk => hk.2) (.int .i64 ((rd_T74 l0 x14_3).f3))) (fun _ hk => hk.1)⟩
                                      have n1_ : Aside0 (Kd.R (Kd.int .i64) 3 ((((w53.setCell ⟨gb180, 0, none⟩ (.int .i64 ((rd_T74 l0 x14_3).f0))).setCell ⟨gb180, 1, none⟩ (.int .i64 ((rd_T74 l0 x14_3).f1))).setCell ⟨gb180, 2, none⟩ (.int .i64 ((rd_T74 l0 x14_3).f2))).setCell ⟨gb180, 3, none⟩ (.int .i64 ((rd_T74 l0 x14_3).f3))) w.heap.size (fun k_ => some k_ ≠ (.slice (some ⟨go23, 0, none⟩) x10_3.length co23 : Value).ownBlock) v174 x11_3) := ⟨by (with_reducible repeat (first | apply Kd.R_alloc | apply Kd.R_drewN | apply Kd.R_drew)); exact Kd.R_mono (Kd.R_far (p := ⟨gb180, 3, none⟩) (Kd.R_far (p := ⟨gb180, 2, none⟩) (Kd.R_far (p := ⟨gb180, 1, none⟩) (Kd.R_far (p := ⟨gb180, 0, none⟩) (Kd.R_types HO_11.out BK180.out (by decide)) (fun _ hk => hk.2) (.int .i64 ((rd_T74 l0 x14_3).f0))) (fun _ hk => hk.2) (.int .i64 ((rd_T74 l0 x14_3).f1))) (fun _ hk => hk.2) (.int .i64 ((rd_T74 l0 x14_3).f2))) (fun _ hk => hk.2) (.int .i64 ((rd_T74 l0 x14_3).f3))) (fun _ hk => hk.1)⟩
                                      have n2_ : Aside0 (((((w53.setCell ⟨gb180, 0, none⟩ (.int .i64 ((rd_T74 l0 x14_3).f0))).setCell ⟨gb180, 1, none⟩ (.int .i64 ((rd_T74 l0 x14_3).f1))).setCell ⟨gb180, 2, none⟩ (.int .i64 ((rd_T74 l0 x14_3).f2))).setCell ⟨gb180, 3, none⟩ (.int .i64 ((rd_T74 l0 x14_3).f3))).heap[gb180]? = some (.cells #[.int .i64 ((rd_T74 l0 x14_3).f0), .int .i64 ((rd_T74 l0 x14_3).f1), .int .i64 ((rd_T74 l0 x14_3).f2), .int .i64 ((rd_T74 l0 x14_3).f3)] 74 (0, 0))) := ⟨by (with_reducible repeat (first | refine blk_drewN ?_ _ | refine blk_drew ?_ | refine blk_alloc ?_ _)); refine blk_put (cs := #[.int .i64 ((rd_T74 l0 x14_3).f0), .int .i64 ((rd_T74 l0 x14_3).f1), .int .i64 ((rd_T74 l0 x14_3).f2), .int .i64 0]) ?_ 3 _ rfl; (with_reducible repeat (first | refine blk_drewN ?_ _ | refine blk_drew ?_ | refine blk_alloc ?_ _)); refine blk_put (cs := #[.int .i64 ((rd_T74 l0 x14_3).f0), .int .i64 ((rd_T74 l0 x14_3).f1), .int .i64 0, .int .i64 0]) ?_ 2 _ rfl; (with_reducible repeat (first | refine blk_drewN ?_ _ | refine blk_drew ?_ | refine blk_alloc ?_ _)); refine blk_put (cs := #[.int .i64 ((rd_T74 l0 x14_3).f0), .int .i64 0, .int .i64 0, .int .i64 0]) ?_ 1 _ rfl; (with_reducible repeat (first | refine blk_drewN ?_ _ | refine blk_drew ?_ | refine blk_alloc ?_ _)); refine blk_put (cs := #[.int .i64 0, .int .i64 0, .int .i64 0, .int .i64 0]) ?_ 0 _ rfl; (with_reducible repeat (first | refine blk_drewN ?_ _ | refine blk_drew ?_ | refine blk_alloc ?_ _)); exact BK180.out⟩
                                      have n3_ : Aside0 (Below w.heap.size w ((((w53.setCell ⟨gb180, 0, none⟩ (.int .i64 ((rd_T74 l0 x14_3).f0))).setCell ⟨gb180, 1, none⟩ (.int .i64 ((rd_T74 l0 x14_3).f1))).setCell ⟨gb180, 2, none⟩ (.int .i64 ((rd_T74 l0 x14_3).f2))).setCell ⟨gb180, 3, none⟩ (.int .i64 ((rd_T74 l0 x14_3).f3)))) := ⟨by repeat (first | (with_reducible first | exact HB.out | apply below_alloc | apply pw_below_drewN | apply below_drew1 | refine below_set ?_ GE180.out) | exact HB.out)⟩
                                      (try clear HO_10)
                                      (try clear HO_11)
                                      (try clear BK180)
                                      (try clear HB)
                                      generalize ((((w53.setCell ⟨gb180, 0, none⟩ (.int .i64 ((rd_T74 l0 x14_3).f0))).setCell ⟨gb180, 1, none⟩ (.int .i64 ((rd_T74 l0 x14_3).f1))).setCell ⟨gb180, 2, none⟩ (.int .i64 ((rd_T74 l0 x14_3).f2))).setCell ⟨gb180, 3, none⟩ (.int .i64 ((rd_T74 l0 x14_3).f3))) = w55 at n0_ n1_ n2_ n3_ ⊢
                                      have HO_10 := n0_
                                      have HO_11 := n1_
                                      have BK180 := n2_
                                      have HB := n3_
                                      clear n0_ n1_ n2_ n3_
                                      have n0_ := Aside0.mk (Kd.R_drew HO_10.out)
                                      have n1_ := Aside0.mk (Kd.R_drew HO_11.out)
                                      have n2_ := Aside0.mk (blk_drew BK180.out)
                                      have n3_ := Aside0.mk (below_drew1 HB.out)
                                      clear HO_10
                                      clear HO_11
                                      clear BK180
                                      clear HB
                                      have HO_10 := n0_
                                      have HO_11 := n1_
                                      have BK180 := n2_
                                      have HB := n3_
                                      clear n0_ n1_ n2_ n3_
                                      have p181 : 0 ≤ (((rd_T74 l0 x14_3).f0) : Int) := of_decide_eq_true (by first | (with_reducible assumption) | assumption)
                                      have q181 : ((rd_T74 l0 x14_3).f0) < (x10_3.length : Int) := of_decide_eq_true (by first | (with_reducible assumption) | assumption)
                                      obtain ⟨ad181, e181, hx181_0⟩ := Kd.at_int (Kd.R_reads' HO_10.out).2.2 ((rd_T74 l0 x14_3).f0) p181 q181
                                      obtain rfl : (⟨go23, 0, none⟩ : Addr) = ad181 := (by injection e181)
                                      (first | simp only [add_plain] at hx181_0 | simp only [add_at] at hx181_0 | simp only [Addr.add, Nat.zero_add] at hx181_0 | skip)
                                      replace p181 := eq_true p181
                                      replace q181 := eq_true q181
                                      refine start_ (n := 27) (S := fun w' => w'.cell? ⟨gb180, 0, none⟩ = some (.int .i64 ((rd_T74 l0 x14_3).f0)) ∧ w'.cell? ⟨gb180, 1, none⟩ = some (.int .i64 ((rd_T74 l0 x14_3).f1)) ∧ w'.cell? ⟨gb180, 2, none⟩ = some (.int .i64 ((rd_T74 l0 x14_3).f2)) ∧ w'.cell? ⟨gb180, 3, none⟩ = some (.int .i64 ((rd_T74 l0 x14_3).f3)) ∧ w'.cell? ⟨go23, (((rd_T74 l0 x14_3).f0)).toNat, none⟩ = some (.int .i64 (rd x10_3 ((rd_T74 l0 x14_3).f0)))) (ds := []) #[false, false, false, false, false, false, false, false, false, false, false, false, false, false, false, false, false, false, false, false, false, false, false, false, false, false, false] (by kernel_rfl) rfl rfl ⟨(blk_cell BK180.out 0).trans rfl, (blk_cell BK180.out 1).trans rfl, (blk_cell BK180.out 2).trans rfl, (blk_cell BK180.out 3).trans rfl, hx181_0⟩ (fun hHeld => ?_); refine with_tabW turndownref08_shortest.tab16 turndownref08_shortest.bits16 (fun HT_ HW_ => ?_)
                                      generalize w55.drew = w56 at HO_10 HO_11 BK180 HB hx181_0 hHeld ⊢
                                      refine pure_ (i := 0) (N := some 49) (v := ?_) (a' := ?_) #[true, false, false, false, false, false, false, false, false, false, false, false, false, false, false, false, false, false, false, false, false, false, false, false, false, false, false] rfl rfl (any_of HT_.out (by kernel_rfl)) (fun _ _ _ h => h) (Or.inl ⟨by rfl, ?_⟩) ?_ ?_
                                      rotate_left
                                      · intro w'
                                        go_simp
                                        with_reducible rfl
                                      rotate_left
                                      · simp only [Act.put, List.setIfInBounds_toArray, List.set_cons_zero, List.set_cons_succ, i64_w, i32_w]
                                        rfl
                                      refine take_ (i := 1) (N := some 50) (v := ?_) (a' := ?_) #[true, true, false, false, false, false, false, false, false, false, false, false, false, false, false, false, false, false, false, false, false, false, false, false, false, false, false] rfl rfl (take_ofW HT_.out HW_.out (by kernel_rfl)) (fun _ _ _ h => h) (Or.inl ⟨by rfl, ?_⟩) hHeld ?_ ?_
                                      rotate_left
                                      · rintro w' ⟨s0, s1, s2, s3, s4⟩
                                        go_simp
                                        with_reducible rfl
                                      rotate_left
                                      · simp only [Act.put, List.setIfInBounds_toArray, List.set_cons_zero, List.set_cons_succ, i64_w, i32_w]
                                        rfl
                                      refine pure_ (i := 2) (N := some 51) (v := ?_) (a' := ?_) #[true, true, true, false, false, false, false, false, false, false, false, false, false, false, false, false, false, false, false, false, false, false, false, false, false, false, false] rfl rfl (any_of HT_.out (by kernel_rfl)) (fun _ _ _ h => h) (Or.inl ⟨by rfl, ?_⟩) ?_ ?_
                                      rotate_left
                                      · intro w'
                                        go_simp
                                        with_reducible rfl
                                      rotate_left
                                      · simp only [Act.put, List.setIfInBounds_toArray, List.set_cons_zero, List.set_cons_succ, i64_w, i32_w]
                                        rfl
                                      refine pure_ (i := 3) (N := some 52) (v := ?_) (a' := ?_) #[true, true, true, true, false, false, false, false, false, false, false, false, false, false, false, false, false, false, false, false, false, false, false, false, false, false, false] rfl rfl (any_of HT_.out (by kernel_rfl)) (fun _ _ _ h => h) (Or.inl ⟨by rfl, ?_⟩) ?_ ?_
                                      rotate_left
                                      · intro w'
                                        go_simp
                                        with_reducible rfl
                                      rotate_left
                                      · simp only [Act.put, List.setIfInBounds_toArray, List.set_cons_zero, List.set_cons_succ, i64_w, i32_w]
                                        rfl
                                      refine pure_ (i := 4) (N := some 53) (v := ?_) (a' := ?_) #[true, true, true, true, true, false, false, false, false, false, false, false, false, false, false, false, false, false, false, false, false, false, false, false, false, false, false] rfl rfl (any_of HT_.out (by kernel_rfl)) (fun _ _ _ h => h) (Or.inl ⟨by rfl, ?_⟩) ?_ ?_
                                      rotate_left
                                      · intro w'
                                        go_simp
                                        with_reducible rfl
                                      rotate_left
                                      · simp only [Act.put, List.setIfInBounds_toArray, List.set_cons_zero, List.set_cons_succ, i64_w, i32_w]
                                        rfl
                                      refine pure_ (i := 5) (N := some 54) (v := ?_) (a' := ?_) #[true, true, true, true, true, true, false, false, false, false, false, false, false, false, false, false, false, false, false, false, false, false, false, false, false, false, false] rfl rfl (any_of HT_.out (by kernel_rfl)) (fun _ _ _ h => h) (Or.inl ⟨by rfl, ?_⟩) ?_ ?_
                                      rotate_left
                                      · intro w'
                                        go_simp
                                        with_reducible rfl
                                      rotate_left
                                      · simp only [Act.put, List.setIfInBounds_toArray, List.set_cons_zero, List.set_cons_succ, i64_w, i32_w]
                                        rfl
                                      refine take_ (i := 6) (N := some 55) (v := ?_) (a' := ?_) #[true, true, true, true, true, true, true, false, false, false, false, false, false, false, false, false, false, false, false, false, false, false, false, false, false, false, false] rfl rfl (take_ofW HT_.out HW_.out (by kernel_rfl)) (fun _ _ _ h => h) (Or.inl ⟨by rfl, ?_⟩) hHeld ?_ ?_
                                      rotate_left
                                      · rintro w' ⟨s0, s1, s2, s3, s4⟩
                                        go_simp
                                        with_reducible rfl
                                      rotate_left
                                      · simp only [Act.put, List.setIfInBounds_toArray, List.set_cons_zero, List.set_cons_succ, i64_w, i32_w]
                                        rfl
                                      refine pure_ (i := 7) (N := some 56) (v := ?_) (a' := ?_) #[true, true, true, true, true, true, true, true, false, false, false, false, false, false, false, false, false, false, false, false, false, false, false, false, false, false, false] rfl rfl (any_of HT_.out (by kernel_rfl)) (fun _ _ _ h => h) (Or.inl ⟨by rfl, ?_⟩) ?_ ?_
                                      rotate_left
                                      · intro w'
                                        go_simp
                                        with_reducible rfl
                                      rotate_left
                                      · simp only [Act.put, List.setIfInBounds_toArray, List.set_cons_zero, List.set_cons_succ, i64_w, i32_w]
                                        rfl
                                      refine take_ (i := 8) (N := some 57) (v := ?_) (a' := ?_) #[true, true, true, true, true, true, true, true, true, false, false, false, false, false, false, false, false, false, false, false, false, false, false, false, false, false, false] rfl rfl (take_ofW HT_.out HW_.out (by kernel_rfl)) (fun _ _ _ h => h) (Or.inl ⟨by rfl, ?_⟩) hHeld ?_ ?_
                                      rotate_left
                                      · rintro w' ⟨s0, s1, s2, s3, s4⟩
                                        go_simp
                                        with_reducible rfl
                                      rotate_left
                                      · simp only [Act.put, List.setIfInBounds_toArray, List.set_cons_zero, List.set_cons_succ, i64_w, i32_w]
                                        rfl
                                      refine pure_ (i := 9) (N := some 58) (v := ?_) (a' := ?_) #[true, true, true, true, true, true, true, true, true, true, false, false, false, false, false, false, false, false, false, false, false, false, false, false, false, false, false] rfl rfl (any_of HT_.out (by kernel_rfl)) (fun _ _ _ h => h) (Or.inl ⟨by rfl, ?_⟩) ?_ ?_
                                      rotate_left
                                      · intro w'
                                        go_simp
                                        with_reducible rfl
                                      rotate_left
                                      · simp only [Act.put, List.setIfInBounds_toArray, List.set_cons_zero, List.set_cons_succ, i64_w, i32_w]
                                        rfl
                                      refine pure_ (i := 10) (N := some 59) (v := ?_) (a' := ?_) #[true, true, true, true, true, true, true, true, true, true, true, false, false, false, false, false, false, false, false, false, false, false, false, false, false, false, false] rfl rfl (any_of HT_.out (by kernel_rfl)) (fun _ _ _ h => h) (Or.inl ⟨by rfl, ?_⟩) ?_ ?_
                                      rotate_left
                                      · intro w'
                                        go_simp
                                        with_reducible rfl
                                      rotate_left
                                      · simp only [Act.put, List.setIfInBounds_toArray, List.set_cons_zero, List.set_cons_succ, i64_w, i32_w]
                                        rfl
                                      refine pure_ (i := 11) (N := some 60) (v := ?_) (a' := ?_) #[true, true, true, true, true, true, true, true, true, true, true, true, false, false, false, false, false, false, false, false, false, false, false, false, false, false, false] rfl rfl (any_of HT_.out (by kernel_rfl)) (fun _ _ _ h => h) (Or.inl ⟨by rfl, ?_⟩) ?_ ?_
                                      rotate_left
                                      · intro w'
                                        go_simp
                                        with_reducible rfl
                                      rotate_left
                                      · simp only [Act.put, List.setIfInBounds_toArray, List.set_cons_zero, List.set_cons_succ, i64_w, i32_w]
                                        rfl
                                      refine pure_ (i := 12) (N := some 61) (v := undef) (a' := ?_) #[true, true, true, true, true, true, true, true, true, true, true, true, true, false, false, false, false, false, false, false, false, false, false, false, false, false, false] rfl rfl (any_of HT_.out (by kernel_rfl)) (fun _ _ _ h => h) (Or.inr ⟨by rfl, rfl⟩) ?_ ?_
                                      rotate_left
                                      · simp only [Act.put, List.setIfInBounds_toArray, List.set_cons_zero, List.set_cons_succ, i64_w, i32_w]
                                        rfl
                                      refine pure_ (i := 13) (N := some 62) (v := undef) (a' := ?_) #[true, true, true, true, true, true, true, true, true, true, true, true, true, true, false, false, false, false, false, false, false, false, false, false, false, false, false] rfl rfl (any_of HT_.out (by kernel_rfl)) (fun _ _ _ h => h) (Or.inr ⟨by rfl, rfl⟩) ?_ ?_
                                      rotate_left
                                      · simp only [Act.put, List.setIfInBounds_toArray, List.set_cons_zero, List.set_cons_succ, i64_w, i32_w]
                                        rfl
                                      refine pure_ (i := 14) (N := some 63) (v := undef) (a' := ?_) #[true, true, true, true, true, true, true, true, true, true, true, true, true, true, true, false, false, false, false, false, false, false, false, false, false, false, false] rfl rfl (any_of HT_.out (by kernel_rfl)) (fun _ _ _ h => h) (Or.inr ⟨by rfl, rfl⟩) ?_ ?_
                                      rotate_left
                                      · simp only [Act.put, List.setIfInBounds_toArray, List.set_cons_zero, List.set_cons_succ, i64_w, i32_w]
                                        rfl
                                      refine pure_ (i := 15) (N := some 64) (v := undef) (a' := ?_) #[true, true, true, true, true, true, true, true, true, true, true, true, true, true, true, true, false, false, false, false, false, false, false, false, false, false, false] rfl rfl (any_of HT_.out (by kernel_rfl)) (fun _ _ _ h => h) (Or.inr ⟨by rfl, rfl⟩) ?_ ?_
                                      rotate_left
                                      · simp only [Act.put, List.setIfInBounds_toArray, List.set_cons_zero, List.set_cons_succ, i64_w, i32_w]
                                        rfl
                                      refine pure_ (i := 16) (N := some 65) (v := undef) (a' := ?_) #[true, true, true, true, true, true, true, true, true, true, true, true, true, true, true, true, true, false, false, false, false, false, false, false, false, false, false] rfl rfl (any_of HT_.out (by kernel_rfl)) (fun _ _ _ h => h) (Or.inr ⟨by rfl, rfl⟩) ?_ ?_
                                      rotate_left
                                      · simp only [Act.put, List.setIfInBounds_toArray, List.set_cons_zero, List.set_cons_succ, i64_w, i32_w]
                                        rfl
                                      refine pure_ (i := 17) (N := some 66) (v := undef) (a' := ?_) #[true, true, true, true, true, true, true, true, true, true, true, true, true, true, true, true, true, true, false, false, false, false, false, false, false, false, false] rfl rfl (any_of HT_.out (by kernel_rfl)) (fun _ _ _ h => h) (Or.inr ⟨by rfl, rfl⟩) ?_ ?_
                                      rotate_left
                                      · simp only [Act.put, List.setIfInBounds_toArray, List.set_cons_zero, List.set_cons_succ, i64_w, i32_w]
                                        rfl
                                      refine pure_ (i := 18) (N := some 67) (v := undef) (a' := ?_) #[true, true, true, true, true, true, true, true, true, true, true, true, true, true, true, true, true, true, true, false, false, false, false, false, false, false, false] rfl rfl (any_of HT_.out (by kernel_rfl)) (fun _ _ _ h => h) (Or.inr ⟨by rfl, rfl⟩) ?_ ?_
                                      rotate_left
                                      · simp only [Act.put, List.setIfInBounds_toArray, List.set_cons_zero, List.set_cons_succ, i64_w, i32_w]
                                        rfl
                                      refine pure_ (i := 19) (N := some 68) (v := undef) (a' := ?_) #[true, true, true, true, true, true, true, true, true, true, true, true, true, true, true, true, true, true, true, true, false, false, false, false, false, false, false] rfl rfl (any_of HT_.out (by kernel_rfl)) (fun _ _ _ h => h) (Or.inr ⟨by rfl, rfl⟩) ?_ ?_
                                      rotate_left
                                      · simp only [Act.put, List.setIfInBounds_toArray, List.set_cons_zero, List.set_cons_succ, i64_w, i32_w]
                                        rfl
                                      refine pure_ (i := 20) (N := some 69) (v := undef) (a' := ?_) #[true, true, true, true, true, true, true, true, true, true, true, true, true, true, true, true, true, true, true, true, true, false, false, false, false, false, false] rfl rfl (any_of HT_.out (by kernel_rfl)) (fun _ _ _ h => h) (Or.inr ⟨by rfl, rfl⟩) ?_ ?_
                                      rotate_left
                                      · simp only [Act.put, List.setIfInBounds_toArray, List.set_cons_zero, List.set_cons_succ, i64_w, i32_w]
                                        rfl
                                      refine pure_ (i := 21) (N := some 70) (v := undef) (a' := ?_) #[true, true, true, true, true, true, true, true, true, true, true, true, true, true, true, true, true, true, true, true, true, true, false, false, false, false, false] rfl rfl (any_of HT_.out (by kernel_rfl)) (fun _ _ _ h => h) (Or.inr ⟨by rfl, rfl⟩) ?_ ?_
                                      rotate_left
                                      · simp only [Act.put, List.setIfInBounds_toArray, List.set_cons_zero, List.set_cons_succ, i64_w, i32_w]
                                        rfl
                                      refine pure_ (i := 22) (N := some 71) (v := undef) (a' := ?_) #[true, true, true, true, true, true, true, true, true, true, true, true, true, true, true, true, true, true, true, true, true, true, true, false, false, false, false] rfl rfl (any_of HT_.out (by kernel_rfl)) (fun _ _ _ h => h) (Or.inr ⟨by rfl, rfl⟩) ?_ ?_
                                      rotate_left
                                      · simp only [Act.put, List.setIfInBounds_toArray, List.set_cons_zero, List.set_cons_succ, i64_w, i32_w]
                                        rfl
                                      refine pure_ (i := 23) (N := some 72) (v := undef) (a' := ?_) #[true, true, true, true, true, true, true, true, true, true, true, true, true, true, true, true, true, true, true, true, true, true, true, true, false, false, false] rfl rfl (any_of HT_.out (by kernel_rfl)) (fun _ _ _ h => h) (Or.inr ⟨by rfl, rfl⟩) ?_ ?_
                                      rotate_left
                                      · simp only [Act.put, List.setIfInBounds_toArray, List.set_cons_zero, List.set_cons_succ, i64_w, i32_w]
                                        rfl
                                      refine pure_ (i := 24) (N := some 73) (v := undef) (a' := ?_) #[true, true, true, true, true, true, true, true, true, true, true, true, true, true, true, true, true, true, true, true, true, true, true, true, true, false, false] rfl rfl (any_of HT_.out (by kernel_rfl)) (fun _ _ _ h => h) (Or.inr ⟨by rfl, rfl⟩) ?_ ?_
                                      rotate_left
                                      · simp only [Act.put, List.setIfInBounds_toArray, List.set_cons_zero, List.set_cons_succ, i64_w, i32_w]
                                        rfl
                                      refine pure_ (i := 25) (N := some 74) (v := undef) (a' := ?_) #[true, true, true, true, true, true, true, true, true, true, true, true, true, true, true, true, true, true, true, true, true, true, true, true, true, true, false] rfl rfl (any_of HT_.out (by kernel_rfl)) (fun _ _ _ h => h) (Or.inr ⟨by rfl, rfl⟩) ?_ ?_
                                      rotate_left
                                      · simp only [Act.put, List.setIfInBounds_toArray, List.set_cons_zero, List.set_cons_succ, i64_w, i32_w]
                                        rfl
                                      refine pure_ (i := 26) (N := some 75) (v := ?_) (a' := ?_) #[true, true, true, true, true, true, true, true, true, true, true, true, true, true, true, true, true, true, true, true, true, true, true, true, true, true, true] rfl rfl (any_of HT_.out (by kernel_rfl)) (fun _ _ _ h => h) (Or.inl ⟨by rfl, ?_⟩) ?_ ?_
                                      rotate_left
                                      · intro w'
                                        go_simp
                                        with_reducible rfl
                                      rotate_left
                                      · simp only [Act.put, List.setIfInBounds_toArray, List.set_cons_zero, List.set_cons_succ, i64_w, i32_w]
                                        rfl
                                      refine done_ (done_of HT_.out (by kernel_rfl)) ?_
                                      try go_wp2
                                      (try simp only [← hl10_3])
                                      go_roundg k3
                                      case measure => have := HK1.out; have := HK2.out; have := HK3.out; omega
                                      case rel => exact ⟨(x10_3), (x11_3), (x13_3), (wrap64 (x14_3 + 1)), (by first | rfl | (simp; done) | (simp [*]; done)), (by first | rfl | (simp; done) | (simp [*]; done)), H', ⟨by have := HK1.out; have := HK2.out; have := HK3.out; omega⟩, ⟨by (try simp only [hl10_2]); (try simp only [hl10_3]); (with_reducible repeat (first | apply Kd.R_alloc | apply Kd.R_drewN | apply Kd.R_drew)); exact HO_10.out⟩, ⟨by (try simp only [hl10_2]); (try simp only [hl10_3]); (with_reducible repeat (first | apply Kd.R_alloc | apply Kd.R_drewN | apply Kd.R_drew)); exact HO_11.out⟩, ⟨by repeat (first | (with_reducible first | exact HB.out | apply below_alloc | apply pw_below_drewN | apply below_drew1 | refine below_set ?_ GE180.out) | exact HB.out)⟩⟩
                                  · rw [if_neg c31] at H
                                    exact absurd H (by simp)
                                · rw [if_neg c30] at H
                                  exact absurd H (by simp)
                              · rw [if_neg c29] at H
                                have c29b0 : decide (0 < ((rd_T74 l0 x14_3).f2)) = false := decide_eq_false c29
                                clear c29
                                have H' := Aside0.mk H
                                clear H
                                have p179 : 0 ≤ (x14_3 : Int) := of_decide_eq_true (by first | (with_reducible assumption) | assumption)
                                have q179 : x14_3 < (l0.length : Int) := of_decide_eq_true (by first | (with_reducible assumption) | assumption)
                                obtain ⟨ad179, e179, hx179_0, hx179_1, hx179_2, hx179_3⟩ := at_T74 HR0.out x14_3 p179 q179
                                cases e179
                                replace hx179_0 := (HB.out.cell (World.block_lt_of_cell? w _ hx179_0)).trans hx179_0
                                replace hx179_1 := (HB.out.cell (World.block_lt_of_cell? w _ hx179_1)).trans hx179_1
                                replace hx179_2 := (HB.out.cell (World.block_lt_of_cell? w _ hx179_2)).trans hx179_2
                                replace hx179_3 := (HB.out.cell (World.block_lt_of_cell? w _ hx179_3)).trans hx179_3
                                replace p179 := eq_true p179
                                replace q179 := eq_true q179
                                try go_wp2_with (first | ((with_reducible refine gate_dst (N := 15) rfl ?_); refine box_event ?hg (N := 15) ?hd (cs := #[.int .i64 0, .int .i64 0, .int .i64 0, .int .i64 0]) (t := 74) ?hr ?_; (case hd => rfl); (case hg => rfl); (case hr => first | (go_simp; done) | (go_simp; rfl)); intro gb180 hg w57 hbox hb; have n0_ := Aside0.mk (Kd.R_below (by (with_reducible repeat (first | apply Kd.R_alloc | apply Kd.R_drewN | apply Kd.R_drew)); exact HO_10.out) hb); have n1_ := Aside0.mk (Kd.R_below (by (with_reducible repeat (first | apply Kd.R_alloc | apply Kd.R_drewN | apply Kd.R_drew)); exact HO_11.out) hb); have n2_ := Aside0.mk (below_step (by repeat (first | (with_reducible first | exact HB.out | apply below_alloc | apply pw_below_drewN | apply below_drew1) | exact HB.out)) hb); have n3_ := Aside0.mk (hbox); have n4_ := Aside0.mk ((by rw [hg]; exact (below_size (by repeat (first | (with_reducible first | exact HB.out | apply below_alloc | apply pw_below_drewN | apply below_drew1) | exact HB.out))) : w.heap.size ≤ gb180)); have n5_ := Aside0.mk ((by rw [hg]; exact (below_size (by repeat (first | (with_reducible first | exact HB.out | apply below_alloc | apply pw_below_drewN | apply below_drew1) | exact HB.out))) : w.heap.size ≤ gb180)); clear HO_10; clear HO_11; clear HB; have HO_10 := n0_; have HO_11 := n1_; have HB := n2_; have BK180 := n3_; have GW180 := n4_; have GE180 := n5_; clear n0_ n1_ n2_ n3_ n4_ n5_; clear hb hbox hg; have hcz58_0 : w57.cell? ⟨gb180, 0, none⟩ = some (.int .i64 0) := (blk_cell BK180.out 0).trans rfl; have hcz58_1 : w57.cell? ⟨gb180, 1, none⟩ = some (.int .i64 0) := (blk_cell BK180.out 1).trans rfl; have hcz58_2 : w57.cell? ⟨gb180, 2, none⟩ = some (.int .i64 0) := (blk_cell BK180.out 2).trans rfl; have hcz58_3 : w57.cell? ⟨gb180, 3, none⟩ = some (.int .i64 0) := (blk_cell BK180.out 3).trans rfl; have hfz58_0 := blk_frozen BK180.out 0; have hfz58_1 := blk_frozen BK180.out 1; have hfz58_2 := blk_frozen BK180.out 2; have hfz58_3 := blk_frozen BK180.out 3))
                                have n0_ : Aside0 (Kd.R (Kd.int .i64) 3 ((((w57.setCell ⟨gb180, 0, none⟩ (.int .i64 ((rd_T74 l0 x14_3).f0))).setCell ⟨gb180, 1, none⟩ (.int .i64 ((rd_T74 l0 x14_3).f1))).setCell ⟨gb180, 2, none⟩ (.int .i64 ((rd_T74 l0 x14_3).f2))).setCell ⟨gb180, 3, none⟩ (.int .i64 ((rd_T74 l0 x14_3).f3))) w.heap.size (fun k_ => some k_ ≠ (v174 : Value).ownBlock) (.slice (some ⟨go23, 0, none⟩) x10_3.length co23) x10_3) := ⟨by (with_reducible repeat (first | apply Kd.R_alloc | apply Kd.R_drewN | apply Kd.R_drew)); exact Kd.R_mono (Kd.R_far (p := ⟨gb180, 3, none⟩) (Kd.R_far (p := ⟨gb180, 2, none⟩) (Kd.R_far (p := ⟨gb180, 1, none⟩) (Kd.R_far (p := ⟨gb180, 0, none⟩) (Kd.R_types HO_10.out BK180.out (by decide)) (fun _ hk => hk.2) (.int .i64 ((rd_T74 l0 x14_3).f0))) (fun _ hk => hk.2) (.int .i64 ((rd_T74 l0 x14_3).f1))) (fun _ hk => hk.2) (.int .i64 ((rd_T74 l0 x14_3).f2))) (fun _ hk => hk.2) (.int .i64 ((rd_T74 l0 x14_3).f3))) (fun _ hk => hk.1)⟩
                                have n1_ : Aside0 (Kd.R (Kd.int .i64) 3 ((((w57.setCell ⟨gb180, 0, none⟩ (.int .i64 ((rd_T74 l0 x14_3).f0))).setCell ⟨gb180, 1, none⟩ (.int .i64 ((rd_T74 l0 x14_3).f1))).setCell ⟨gb180, 2, none⟩ (.int .i64 ((rd_T74 l0 x14_3).f2))).setCell ⟨gb180, 3, none⟩ (.int .i64 ((rd_T74 l0 x14_3).f3))) w.heap.size (fun k_ => some k_ ≠ (.slice (some ⟨go23, 0, none⟩) x10_3.length co23 : Value).ownBlock) v174 x11_3) := ⟨by (with_reducible repeat (first | apply Kd.R_alloc | apply Kd.R_drewN | apply Kd.R_drew)); exact Kd.R_mono (Kd.R_far (p := ⟨gb180, 3, none⟩) (Kd.R_far (p := ⟨gb180, 2, none⟩) (Kd.R_far (p := ⟨gb180, 1, none⟩) (Kd.R_far (p := ⟨gb180, 0, none⟩) (Kd.R_types HO_11.out BK180.out (by decide)) (fun _ hk => hk.2) (.int .i64 ((rd_T74 l0 x14_3).f0))) (fun _ hk => hk.2) (.int .i64 ((rd_T74 l0 x14_3).f1))) (fun _ hk => hk.2) (.int .i64 ((rd_T74 l0 x14_3).f2))) (fun _ hk => hk.2) (.int .i64 ((rd_T74 l0 x14_3).f3))) (fun _ hk => hk.1)⟩
                                have n2_ : Aside0 (((((w57.setCell ⟨gb180, 0, none⟩ (.int .i64 ((rd_T74 l0 x14_3).f0))).setCell ⟨gb180, 1, none⟩ (.int .i64 ((rd_T74 l0 x14_3).f1))).setCell ⟨gb180, 2, none⟩ (.int .i64 ((rd_T74 l0 x14_3).f2))).setCell ⟨gb180, 3, none⟩ (.int .i64 ((rd_T74 l0 x14_3).f3))).heap[gb180]? = some (.cells #[.int .i64 ((rd_T74 l0 x14_3).f0), .int .i64 ((rd_T74 l0 x14_3).f1), .int .i64 ((rd_T74 l0 x14_3).f2), .int .i64 ((rd_T74 l0 x14_3).f3)] 74 (0, 0))) := ⟨by (with_reducible repeat (first | refine blk_drewN ?_ _ | refine blk_drew ?_ | refine blk_alloc ?_ _)); refine blk_put (cs := #[.int .i64 ((rd_T74 l0 x14_3).f0), .int .i64 ((rd_T74 l0 x14_3).f1), .int .i64 ((rd_T74 l0 x14_3).f2), .int .i64 0]) ?_ 3 _ rfl; (with_reducible repeat (first | refine blk_drewN ?_ _ | refine blk_drew ?_ | refine blk_alloc ?_ _)); refine blk_put (cs := #[.int .i64 ((rd_T74 l0 x14_3).f0), .int .i64 ((rd_T74 l0 x14_3).f1), .int .i64 0, .int .i64 0]) ?_ 2 _ rfl; (with_reducible repeat (first | refine blk_drewN ?_ _ | refine blk_drew ?_ | refine blk_alloc ?_ _)); refine blk_put (cs := #[.int .i64 ((rd_T74 l0 x14_3).f0), .int .i64 0, .int .i64 0, .int .i64 0]) ?_ 1 _ rfl; (with_reducible repeat (first | refine blk_drewN ?_ _ | refine blk_drew ?_ | refine blk_alloc ?_ _)); refine blk_put (cs := #[.int .i64 0, .int .i64 0, .int .i64 0, .int .i64 0]) ?_ 0 _ rfl; (with_reducible repeat (first | refine blk_drewN ?_ _ | refine blk_drew ?_ | refine blk_alloc ?_ _)); exact BK180.out⟩
                                have n3_ : Aside0 (Below w.heap.size w ((((w57.setCell ⟨gb180, 0, none⟩ (.int .i64 ((rd_T74 l0 x14_3).f0))).setCell ⟨gb180, 1, none⟩ (.int .i64 ((rd_T74 l0 x14_3).f1))).setCell ⟨gb180, 2, none⟩ (.int .i64 ((rd_T74 l0 x14_3).f2))).setCell ⟨gb180, 3, none⟩ (.int .i64 ((rd_T74 l0 x14_3).f3)))) := ⟨by repeat (first | (with_reducible first | exact HB.out | apply below_alloc | apply pw_below_drewN | apply below_drew1 | refine below_set ?_ GE180.out) | exact HB.out)⟩
                                (try clear HO_10)
                                (try clear HO_11)
                                (try clear BK180)
                                (try clear HB)
                                generalize ((((w57.setCell ⟨gb180, 0, none⟩ (.int .i64 ((rd_T74 l0 x14_3).f0))).setCell ⟨gb180, 1, none⟩ (.int .i64 ((rd_T74 l0 x14_3).f1))).setCell ⟨gb180, 2, none⟩ (.int .i64 ((rd_T74 l0 x14_3).f2))).setCell ⟨gb180, 3, none⟩ (.int .i64 ((rd_T74 l0 x14_3).f3))) = w59 at n0_ n1_ n2_ n3_ ⊢
                                have HO_10 := n0_
                                have HO_11 := n1_
                                have BK180 := n2_
                                have HB := n3_
                                clear n0_ n1_ n2_ n3_
                                have n0_ := Aside0.mk (Kd.R_drew HO_10.out)
                                have n1_ := Aside0.mk (Kd.R_drew HO_11.out)
                                have n2_ := Aside0.mk (blk_drew BK180.out)
                                have n3_ := Aside0.mk (below_drew1 HB.out)
                                clear HO_10
                                clear HO_11
                                clear BK180
                                clear HB
                                have HO_10 := n0_
                                have HO_11 := n1_
                                have BK180 := n2_
                                have HB := n3_
                                clear n0_ n1_ n2_ n3_
                                refine start_ (n := 27) (S := fun w' => w'.cell? ⟨gb180, 0, none⟩ = some (.int .i64 ((rd_T74 l0 x14_3).f0)) ∧ w'.cell? ⟨gb180, 1, none⟩ = some (.int .i64 ((rd_T74 l0 x14_3).f1)) ∧ w'.cell? ⟨gb180, 2, none⟩ = some (.int .i64 ((rd_T74 l0 x14_3).f2)) ∧ w'.cell? ⟨gb180, 3, none⟩ = some (.int .i64 ((rd_T74 l0 x14_3).f3))) (ds := []) #[false, false, false, false, false, false, false, false, false, false, false, false, false, false, false, false, false, false, false, false, false, false, false, false, false, false, false] (by kernel_rfl) rfl rfl ⟨(blk_cell BK180.out 0).trans rfl, (blk_cell BK180.out 1).trans rfl, (blk_cell BK180.out 2).trans rfl, (blk_cell BK180.out 3).trans rfl⟩ (fun hHeld => ?_); refine with_tabW turndownref08_shortest.tab16 turndownref08_shortest.bits16 (fun HT_ HW_ => ?_)
                                generalize w59.drew = w60 at HO_10 HO_11 BK180 HB hHeld ⊢
                                refine pure_ (i := 0) (N := some 49) (v := ?_) (a' := ?_) #[true, false, false, false, false, false, false, false, false, false, false, false, false, false, false, false, false, false, false, false, false, false, false, false, false, false, false] rfl rfl (any_of HT_.out (by kernel_rfl)) (fun _ _ _ h => h) (Or.inl ⟨by rfl, ?_⟩) ?_ ?_
                                rotate_left
                                · intro w'
                                  go_simp
                                  with_reducible rfl
                                rotate_left
                                · simp only [Act.put, List.setIfInBounds_toArray, List.set_cons_zero, List.set_cons_succ, i64_w, i32_w]
                                  rfl
                                refine take_ (i := 1) (N := some 50) (v := ?_) (a' := ?_) #[true, true, false, false, false, false, false, false, false, false, false, false, false, false, false, false, false, false, false, false, false, false, false, false, false, false, false] rfl rfl (take_ofW HT_.out HW_.out (by kernel_rfl)) (fun _ _ _ h => h) (Or.inl ⟨by rfl, ?_⟩) hHeld ?_ ?_
                                rotate_left
                                · rintro w' ⟨s0, s1, s2, s3⟩
                                  go_simp
                                  with_reducible rfl
                                rotate_left
                                · simp only [Act.put, List.setIfInBounds_toArray, List.set_cons_zero, List.set_cons_succ, i64_w, i32_w]
                                  rfl
                                refine pure_ (i := 2) (N := some 51) (v := ?_) (a' := ?_) #[true, true, true, false, false, false, false, false, false, false, false, false, false, false, false, false, false, false, false, false, false, false, false, false, false, false, false] rfl rfl (any_of HT_.out (by kernel_rfl)) (fun _ _ _ h => h) (Or.inl ⟨by rfl, ?_⟩) ?_ ?_
                                rotate_left
                                · intro w'
                                  go_simp
                                  with_reducible rfl
                                rotate_left
                                · simp only [Act.put, List.setIfInBounds_toArray, List.set_cons_zero, List.set_cons_succ, i64_w, i32_w]
                                  rfl
                                refine pure_ (i := 3) (N := some 52) (v := ?_) (a' := ?_) #[true, true, true, true, false, false, false, false, false, false, false, false, false, false, false, false, false, false, false, false, false, false, false, false, false, false, false] rfl rfl (any_of HT_.out (by kernel_rfl)) (fun _ _ _ h => h) (Or.inl ⟨by rfl, ?_⟩) ?_ ?_
                                rotate_left
                                · intro w'
                                  go_simp
                                  with_reducible rfl
                                rotate_left
                                · simp only [Act.put, List.setIfInBounds_toArray, List.set_cons_zero, List.set_cons_succ, i64_w, i32_w]
                                  rfl
                                refine pure_ (i := 4) (N := some 53) (v := undef) (a' := ?_) #[true, true, true, true, true, false, false, false, false, false, false, false, false, false, false, false, false, false, false, false, false, false, false, false, false, false, false] rfl rfl (any_of HT_.out (by kernel_rfl)) (fun _ _ _ h => h) (Or.inr ⟨by rfl, rfl⟩) ?_ ?_
                                rotate_left
                                · simp only [Act.put, List.setIfInBounds_toArray, List.set_cons_zero, List.set_cons_succ, i64_w, i32_w]
                                  rfl
                                refine pure_ (i := 5) (N := some 54) (v := undef) (a' := ?_) #[true, true, true, true, true, true, false, false, false, false, false, false, false, false, false, false, false, false, false, false, false, false, false, false, false, false, false] rfl rfl (any_of HT_.out (by kernel_rfl)) (fun _ _ _ h => h) (Or.inr ⟨by rfl, rfl⟩) ?_ ?_
                                rotate_left
                                · simp only [Act.put, List.setIfInBounds_toArray, List.set_cons_zero, List.set_cons_succ, i64_w, i32_w]
                                  rfl
                                refine pure_ (i := 6) (N := some 55) (v := undef) (a' := ?_) #[true, true, true, true, true, true, true, false, false, false, false, false, false, false, false, false, false, false, false, false, false, false, false, false, false, false, false] rfl rfl (any_of HT_.out (by kernel_rfl)) (fun _ _ _ h => h) (Or.inr ⟨by rfl, rfl⟩) ?_ ?_
                                rotate_left
                                · simp only [Act.put, List.setIfInBounds_toArray, List.set_cons_zero, List.set_cons_succ, i64_w, i32_w]
                                  rfl
                                refine pure_ (i := 7) (N := some 56) (v := undef) (a' := ?_) #[true, true, true, true, true, true, true, true, false, false, false, false, false, false, false, false, false, false, false, false, false, false, false, false, false, false, false] rfl rfl (any_of HT_.out (by kernel_rfl)) (fun _ _ _ h => h) (Or.inr ⟨by rfl, rfl⟩) ?_ ?_
                                rotate_left
                                · simp only [Act.put, List.setIfInBounds_toArray, List.set_cons_zero, List.set_cons_succ, i64_w, i32_w]
                                  rfl
                                refine pure_ (i := 8) (N := some 57) (v := undef) (a' := ?_) #[true, true, true, true, true, true, true, true, true, false, false, false, false, false, false, false, false, false, false, false, false, false, false, false, false, false, false] rfl rfl (any_of HT_.out (by kernel_rfl)) (fun _ _ _ h => h) (Or.inr ⟨by rfl, rfl⟩) ?_ ?_
                                rotate_left
                                · simp only [Act.put, List.setIfInBounds_toArray, List.set_cons_zero, List.set_cons_succ, i64_w, i32_w]
                                  rfl
                                refine pure_ (i := 9) (N := some 58) (v := undef) (a' := ?_) #[true, true, true, true, true, true, true, true, true, true, false, false, false, false, false, false, false, false, false, false, false, false, false, false, false, false, false] rfl rfl (any_of HT_.out (by kernel_rfl)) (fun _ _ _ h => h) (Or.inr ⟨by rfl, rfl⟩) ?_ ?_
                                rotate_left
                                · simp only [Act.put, List.setIfInBounds_toArray, List.set_cons_zero, List.set_cons_succ, i64_w, i32_w]
                                  rfl
                                refine pure_ (i := 10) (N := some 59) (v := ?_) (a' := ?_) #[true, true, true, true, true, true, true, true, true, true, true, false, false, false, false, false, false, false, false, false, false, false, false, false, false, false, false] rfl rfl (any_of HT_.out (by kernel_rfl)) (fun _ _ _ h => h) (Or.inl ⟨by rfl, ?_⟩) ?_ ?_
                                rotate_left
                                · intro w'
                                  go_simp
                                  with_reducible rfl
                                rotate_left
                                · simp only [Act.put, List.setIfInBounds_toArray, List.set_cons_zero, List.set_cons_succ, i64_w, i32_w]
                                  rfl
                                refine pure_ (i := 11) (N := some 60) (v := ?_) (a' := ?_) #[true, true, true, true, true, true, true, true, true, true, true, true, false, false, false, false, false, false, false, false, false, false, false, false, false, false, false] rfl rfl (any_of HT_.out (by kernel_rfl)) (fun _ _ _ h => h) (Or.inl ⟨by rfl, ?_⟩) ?_ ?_
                                rotate_left
                                · intro w'
                                  go_simp
                                  with_reducible rfl
                                rotate_left
                                · simp only [Act.put, List.setIfInBounds_toArray, List.set_cons_zero, List.set_cons_succ, i64_w, i32_w]
                                  rfl
                                refine pure_ (i := 12) (N := some 61) (v := undef) (a' := ?_) #[true, true, true, true, true, true, true, true, true, true, true, true, true, false, false, false, false, false, false, false, false, false, false, false, false, false, false] rfl rfl (any_of HT_.out (by kernel_rfl)) (fun _ _ _ h => h) (Or.inr ⟨by rfl, rfl⟩) ?_ ?_
                                rotate_left
                                · simp only [Act.put, List.setIfInBounds_toArray, List.set_cons_zero, List.set_cons_succ, i64_w, i32_w]
                                  rfl
                                refine pure_ (i := 13) (N := some 62) (v := undef) (a' := ?_) #[true, true, true, true, true, true, true, true, true, true, true, true, true, true, false, false, false, false, false, false, false, false, false, false, false, false, false] rfl rfl (any_of HT_.out (by kernel_rfl)) (fun _ _ _ h => h) (Or.inr ⟨by rfl, rfl⟩) ?_ ?_
                                rotate_left
                                · simp only [Act.put, List.setIfInBounds_toArray, List.set_cons_zero, List.set_cons_succ, i64_w, i32_w]
                                  rfl
                                refine pure_ (i := 14) (N := some 63) (v := undef) (a' := ?_) #[true, true, true, true, true, true, true, true, true, true, true, true, true, true, true, false, false, false, false, false, false, false, false, false, false, false, false] rfl rfl (any_of HT_.out (by kernel_rfl)) (fun _ _ _ h => h) (Or.inr ⟨by rfl, rfl⟩) ?_ ?_
                                rotate_left
                                · simp only [Act.put, List.setIfInBounds_toArray, List.set_cons_zero, List.set_cons_succ, i64_w, i32_w]
                                  rfl
                                refine pure_ (i := 15) (N := some 64) (v := undef) (a' := ?_) #[true, true, true, true, true, true, true, true, true, true, true, true, true, true, true, true, false, false, false, false, false, false, false, false, false, false, false] rfl rfl (any_of HT_.out (by kernel_rfl)) (fun _ _ _ h => h) (Or.inr ⟨by rfl, rfl⟩) ?_ ?_
                                rotate_left
                                · simp only [Act.put, List.setIfInBounds_toArray, List.set_cons_zero, List.set_cons_succ, i64_w, i32_w]
                                  rfl
                                refine pure_ (i := 16) (N := some 65) (v := undef) (a' := ?_) #[true, true, true, true, true, true, true, true, true, true, true, true, true, true, true, true, true, false, false, false, false, false, false, false, false, false, false] rfl rfl (any_of HT_.out (by kernel_rfl)) (fun _ _ _ h => h) (Or.inr ⟨by rfl, rfl⟩) ?_ ?_
                                rotate_left
                                · simp only [Act.put, List.setIfInBounds_toArray, List.set_cons_zero, List.set_cons_succ, i64_w, i32_w]
                                  rfl
                                refine pure_ (i := 17) (N := some 66) (v := undef) (a' := ?_) #[true, true, true, true, true, true, true, true, true, true, true, true, true, true, true, true, true, true, false, false, false, false, false, false, false, false, false] rfl rfl (any_of HT_.out (by kernel_rfl)) (fun _ _ _ h => h) (Or.inr ⟨by rfl, rfl⟩) ?_ ?_
                                rotate_left
                                · simp only [Act.put, List.setIfInBounds_toArray, List.set_cons_zero, List.set_cons_succ, i64_w, i32_w]
                                  rfl
                                refine pure_ (i := 18) (N := some 67) (v := undef) (a' := ?_) #[true, true, true, true, true, true, true, true, true, true, true, true, true, true, true, true, true, true, true, false, false, false, false, false, false, false, false] rfl rfl (any_of HT_.out (by kernel_rfl)) (fun _ _ _ h => h) (Or.inr ⟨by rfl, rfl⟩) ?_ ?_
                                rotate_left
                                · simp only [Act.put, List.setIfInBounds_toArray, List.set_cons_zero, List.set_cons_succ, i64_w, i32_w]
                                  rfl
                                refine pure_ (i := 19) (N := some 68) (v := undef) (a' := ?_) #[true, true, true, true, true, true, true, true, true, true, true, true, true, true, true, true, true, true, true, true, false, false, false, false, false, false, false] rfl rfl (any_of HT_.out (by kernel_rfl)) (fun _ _ _ h => h) (Or.inr ⟨by rfl, rfl⟩) ?_ ?_
                                rotate_left
                                · simp only [Act.put, List.setIfInBounds_toArray, List.set_cons_zero, List.set_cons_succ, i64_w, i32_w]
                                  rfl
                                refine pure_ (i := 20) (N := some 69) (v := undef) (a' := ?_) #[true, true, true, true, true, true, true, true, true, true, true, true, true, true, true, true, true, true, true, true, true, false, false, false, false, false, false] rfl rfl (any_of HT_.out (by kernel_rfl)) (fun _ _ _ h => h) (Or.inr ⟨by rfl, rfl⟩) ?_ ?_
                                rotate_left
                                · simp only [Act.put, List.setIfInBounds_toArray, List.set_cons_zero, List.set_cons_succ, i64_w, i32_w]
                                  rfl
                                refine pure_ (i := 21) (N := some 70) (v := undef) (a' := ?_) #[true, true, true, true, true, true, true, true, true, true, true, true, true, true, true, true, true, true, true, true, true, true, false, false, false, false, false] rfl rfl (any_of HT_.out (by kernel_rfl)) (fun _ _ _ h => h) (Or.inr ⟨by rfl, rfl⟩) ?_ ?_
                                rotate_left
                                · simp only [Act.put, List.setIfInBounds_toArray, List.set_cons_zero, List.set_cons_succ, i64_w, i32_w]
                                  rfl
                                refine pure_ (i := 22) (N := some 71) (v := undef) (a' := ?_) #[true, true, true, true, true, true, true, true, true, true, true, true, true, true, true, true, true, true, true, true, true, true, true, false, false, false, false] rfl rfl (any_of HT_.out (by kernel_rfl)) (fun _ _ _ h => h) (Or.inr ⟨by rfl, rfl⟩) ?_ ?_
                                rotate_left
                                · simp only [Act.put, List.setIfInBounds_toArray, List.set_cons_zero, List.set_cons_succ, i64_w, i32_w]
                                  rfl
                                refine pure_ (i := 23) (N := some 72) (v := undef) (a' := ?_) #[true, true, true, true, true, true, true, true, true, true, true, true, true, true, true, true, true, true, true, true, true, true, true, true, false, false, false] rfl rfl (any_of HT_.out (by kernel_rfl)) (fun _ _ _ h => h) (Or.inr ⟨by rfl, rfl⟩) ?_ ?_
                                rotate_left
                                · simp only [Act.put, List.setIfInBounds_toArray, List.set_cons_zero, List.set_cons_succ, i64_w, i32_w]
                                  rfl
                                refine pure_ (i := 24) (N := some 73) (v := undef) (a' := ?_) #[true, true, true, true, true, true, true, true, true, true, true, true, true, true, true, true, true, true, true, true, true, true, true, true, true, false, false] rfl rfl (any_of HT_.out (by kernel_rfl)) (fun _ _ _ h => h) (Or.inr ⟨by rfl, rfl⟩) ?_ ?_
                                rotate_left
                                · simp only [Act.put, List.setIfInBounds_toArray, List.set_cons_zero, List.set_cons_succ, i64_w, i32_w]
                                  rfl
                                refine pure_ (i := 25) (N := some 74) (v := undef) (a' := ?_) #[true, true, true, true, true, true, true, true, true, true, true, true, true, true, true, true, true, true, true, true, true, true, true, true, true, true, false] rfl rfl (any_of HT_.out (by kernel_rfl)) (fun _ _ _ h => h) (Or.inr ⟨by rfl, rfl⟩) ?_ ?_
                                rotate_left
                                · simp only [Act.put, List.setIfInBounds_toArray, List.set_cons_zero, List.set_cons_succ, i64_w, i32_w]
                                  rfl
                                refine pure_ (i := 26) (N := some 75) (v := ?_) (a' := ?_) #[true, true, true, true, true, true, true, true, true, true, true, true, true, true, true, true, true, true, true, true, true, true, true, true, true, true, true] rfl rfl (any_of HT_.out (by kernel_rfl)) (fun _ _ _ h => h) (Or.inl ⟨by rfl, ?_⟩) ?_ ?_
                                rotate_left
                                · intro w'
                                  go_simp
                                  with_reducible rfl
                                rotate_left
                                · simp only [Act.put, List.setIfInBounds_toArray, List.set_cons_zero, List.set_cons_succ, i64_w, i32_w]
                                  rfl
                                refine done_ (done_of HT_.out (by kernel_rfl)) ?_
                                try go_wp2
                                (try simp only [← hl10_3])
                                go_roundg k3
                                case measure => have := HK1.out; have := HK2.out; have := HK3.out; omega
                                case rel => exact ⟨(x10_3), (x11_3), (x13_3), (wrap64 (x14_3 + 1)), (by first | rfl | (simp; done) | (simp [*]; done)), (by first | rfl | (simp; done) | (simp [*]; done)), H', ⟨by have := HK1.out; have := HK2.out; have := HK3.out; omega⟩, ⟨by (try simp only [hl10_2]); (try simp only [hl10_3]); (with_reducible repeat (first | apply Kd.R_alloc | apply Kd.R_drewN | apply Kd.R_drew)); exact HO_10.out⟩, ⟨by (try simp only [hl10_2]); (try simp only [hl10_3]); (with_reducible repeat (first | apply Kd.R_alloc | apply Kd.R_drewN | apply Kd.R_drew)); exact HO_11.out⟩, ⟨by repeat (first | (with_reducible first | exact HB.out | apply below_alloc | apply pw_below_drewN | apply below_drew1 | refine below_set ?_ GE180.out) | exact HB.out)⟩⟩
                            · rw [if_neg c28] at H
                              exact absurd H (by simp)
                          · rw [if_neg c27] at H
                            have c27b0 : decide (x14_3 < (l0.length : Int)) = false := decide_eq_false c27
                            clear c27
                            have H' := Aside0.mk H
                            clear H
                            go_wp2
                            (try simp only [← hl10_2, ← hl10_3])
                            go_roundg k3
                            case measure => have := HK1.out; have := HK2.out; have := HK3.out; omega
                            case rel => exact ⟨(x10_3), (x11_3), (x13_3), (by first | rfl | (simp; done) | (simp [*]; done)), H', ⟨by have := HK1.out; have := HK2.out; have := HK3.out; omega⟩, ⟨by (try simp only [hl10_2]); (try simp only [hl10_3]); (with_reducible repeat (first | apply Kd.R_alloc | apply Kd.R_drewN | apply Kd.R_drew)); exact HO_10.out⟩, ⟨by (try simp only [hl10_2]); (try simp only [hl10_3]); (with_reducible repeat (first | apply Kd.R_alloc | apply Kd.R_drewN | apply Kd.R_drew)); exact HO_11.out⟩, ⟨by repeat (first | (with_reducible first | exact HB.out | apply below_alloc | apply pw_below_drewN | apply below_drew1) | exact HB.out)⟩⟩
                    · replace c26 := Bool.eq_false_iff.mpr c26
                      subst c26
                      have H1 : (if 0 ≤ a3 then (if a3 < (x10_2.length : Int) then (if (rd x10_2 a3) ≥ 1152921504606846976 then (some (1152921504606846976, ([] : List (S74)))) else (if ([] : List (S74)).length + l0.length < 4398046511104 then (turndownref08_shortest.l3 k2 a2 a3 x10_2 x11_2 (([] : List (S74)) ++ l0) a3) else (none))) else (none)) else (none)) = some (r1, r2) := by rw [if_neg (show ¬ (false = true) by decide)] at H; exact H
                      clear H
                      have H := H1
                      clear H1
                      by_cases c61 : 0 ≤ a3
                      · rw [if_pos c61] at H
                        have c61b0 : decide (0 ≤ a3) = true := decide_eq_true c61
                        clear c61
                        by_cases c62 : a3 < (x10_2.length : Int)
                        · rw [if_pos c62] at H
                          have c62b0 : decide (a3 < (x10_2.length : Int)) = true := decide_eq_true c62
                          clear c62
                          by_cases c63 : (rd x10_2 a3) ≥ 1152921504606846976
                          · rw [if_pos c63] at H
                            have c63b0 : decide (1152921504606846976 ≤ (rd x10_2 a3)) = true := decide_eq_true c63
                            clear c63
                            simp only [Option.some.injEq, Prod.mk.injEq] at H
                            obtain ⟨rfl, rfl⟩ := H
                            have p187 : 0 ≤ (a3 : Int) := of_decide_eq_true (by first | (with_reducible assumption) | assumption)
                            have q187 : a3 < (x10_2.length : Int) := of_decide_eq_true (by first | (with_reducible assumption) | assumption)
                            obtain ⟨ad187, e187, hx187_0⟩ := Kd.at_int (Kd.R_reads' HO_10.out).2.2 a3 p187 q187
                            obtain rfl : (⟨go23, 0, none⟩ : Addr) = ad187 := (by injection e187)
                            (first | simp only [add_plain] at hx187_0 | simp only [add_at] at hx187_0 | simp only [Addr.add, Nat.zero_add] at hx187_0 | skip)
                            replace p187 := eq_true p187
                            replace q187 := eq_true q187
                            go_wp2
                            go_ret2
                            exact ⟨_, by first | rfl | (simp [errW_none, errW_some] <;> rfl) | (simp [*, errW_none, errW_some] <;> rfl), by first | exact Kd.R_nil _ _ _ _ _ | exact Kd.N_nil _ _ _ _ _ | exact Kd.V_nil _ _ _ _ _ | exact Kd.Q_nil _ _ _ _ _ | exact Kd.S_nil _ _ _ _ _, by repeat (first | (with_reducible first | exact HB.out | apply below_alloc | apply pw_below_drewN | apply below_drew1) | exact HB.out)⟩
                          · rw [if_neg c63] at H
                            have c63b0 : decide (1152921504606846976 ≤ (rd x10_2 a3)) = false := decide_eq_false c63
                            clear c63
                            by_cases c64 : ([] : List (S74)).length + l0.length < 4398046511104
                            · rw [if_pos c64] at H
                              have LMc64 := Aside0.mk c64
                              clear c64
                              obtain ⟨y188, hy188⟩ : ∃ y_ : List (S74), y_ = (([] : List (S74)) ++ l0) := ⟨_, rfl⟩
                              replace H : (turndownref08_shortest.l3 k2 a2 a3 x10_2 x11_2 y188 a3) = some (r1, r2) := by first | (rw [hy188]; with_reducible exact H) | (have H2_ := (Option.bind_some _ _).symm.trans H; rw [hy188]; with_reducible exact H2_) | (have H2_ := (Option.bind_some _ _).symm.trans H; with_reducible exact H2_) | with_reducible exact H | (rw [hy188]; exact H) | exact H
                              have Ny188 := Aside0.mk hy188
                              clear hy188
                              have H' := Aside0.mk H
                              clear H
                              have p187 : 0 ≤ (a3 : Int) := of_decide_eq_true (by first | (with_reducible assumption) | assumption)
                              have q187 : a3 < (x10_2.length : Int) := of_decide_eq_true (by first | (with_reducible assumption) | assumption)
                              obtain ⟨ad187, e187, hx187_0⟩ := Kd.at_int (Kd.R_reads' HO_10.out).2.2 a3 p187 q187
                              obtain rfl : (⟨go23, 0, none⟩ : Addr) = ad187 := (by injection e187)
                              (first | simp only [add_plain] at hx187_0 | simp only [add_at] at hx187_0 | simp only [Addr.add, Nat.zero_add] at hx187_0 | skip)
                              replace p187 := eq_true p187
                              replace q187 := eq_true q187
                              go_wp2_with (first | ((with_reducible refine gate_builtin (b := .append) (xs := #[.tmp 98, .tmp 99]) rfl ?_); at_builtin; refine Kd.R_append_rows k74 (w0 := w) w.heap.size rfl (.tmp 98) (.tmp 99) 71 74 (.agg #[(.int .i64 0), (.int .i64 0), (.int .i64 0), (.int .i64 0)]) 32 rfl Try.underlying71 info74 rfl (by decide) (by omega) (.slice none 0 0) ([] : List (S74)) l0 _ _ _ (fun _ => True) (fun _ => False) rfl rfl ?aO ?aR (fun _ _ h => h) (fun _ h => h.elim) ?aF ?aB ?aS ?aL ?_; (case aR => repeat (first | exact (Kd.C_below HR0.out HB.out) | (with_reducible refine Kd.C_alloc ?_ _) | (with_reducible refine Kd.C_drewN ?_ _) | (with_reducible refine Kd.C_drew ?_))); (case aB => exact (by repeat (first | (with_reducible first | exact HB.out | apply below_alloc | apply pw_below_drewN | apply below_drew1) | exact HB.out))); (case aF => exact (fun _ _ => trivial)); (case aO => exact ((Kd.R_nil _ _ _ _ (fun _ => True)))); (case aS => exact (below_size (by repeat (first | (with_reducible first | exact HB.out | apply below_alloc | apply pw_below_drewN | apply below_drew1) | exact HB.out)))); (case aL => have := LMc64.out; omega); intro v189 w65 ho hb hg hat; rw [← Ny188.out] at ho; have n0_ := Aside0.mk (Kd.R_grown (by (with_reducible repeat (first | apply Kd.R_alloc | apply Kd.R_drewN | apply Kd.R_drew)); exact HO_10.out) hg (fun _ _ => by simp [Value.ownBlock])); have n1_ := Aside0.mk (Kd.R_grown (by (with_reducible repeat (first | apply Kd.R_alloc | apply Kd.R_drewN | apply Kd.R_drew)); exact HO_11.out) hg (fun _ _ => by simp [Value.ownBlock])); have n2_ := Aside0.mk (hb); have n3_ := Aside0.mk (ho); clear HO_10; clear HO_11; clear HB; have HO_10 := n0_; have HO_11 := n1_; have HB := n2_; have HO190 := n3_; clear n0_ n1_ n2_ n3_; clear ho hb hg hat))
                              go_loopg [17] k2 (fun kq v17 w' => ∃ (x16_3 : List (S74)) (x17_3 : Int), v17 = .int .i64 x17_3 ∧ Aside0 (turndownref08_shortest.l3 kq a2 a3 x10_2 x11_2 x16_3 x17_3 = some (r1, r2)) ∧ Aside0 (kq ≤ k2) ∧ Aside0 (Kd.R (Kd.int .i64) 3 w' w.heap.size (fun k_ => some k_ ≠ (v174 : Value).ownBlock) (.slice (some ⟨go23, 0, none⟩) x10_2.length co23) x10_2) ∧ Aside0 (Kd.R (Kd.int .i64) 3 w' w.heap.size (fun k_ => some k_ ≠ ((.slice (some ⟨go23, 0, none⟩) x10_2.length co23) : Value).ownBlock) v174 x11_2) ∧ Aside0 (Kd.R k74 74 w' w.heap.size (fun _ => True) v189 x16_3) ∧ Aside0 (Below w.heap.size w w'))
                              case atStart => exact ⟨(y188), (a3), (by first | rfl | (simp; done) | (simp [*]; done)), H', ⟨Nat.le_refl _⟩, ⟨by (try simp only [hl10_2]); (with_reducible repeat (first | apply Kd.R_alloc | apply Kd.R_drewN | apply Kd.R_drew)); exact HO_10.out⟩, ⟨by (try simp only [hl10_2]); (with_reducible repeat (first | apply Kd.R_alloc | apply Kd.R_drewN | apply Kd.R_drew)); exact HO_11.out⟩, ⟨by (try simp only [hl10_2]); (with_reducible repeat (first | apply Kd.R_alloc | apply Kd.R_drewN | apply Kd.R_drew)); exact HO190.out⟩, ⟨by repeat (first | (with_reducible first | exact HB.out | apply below_alloc | apply pw_below_drewN | apply below_drew1) | exact HB.out)⟩⟩
                              case round =>
                                clear H'
                                try clear p1
                                try clear q1
                                try clear hx1
                                try clear c2
                                try clear p2
                                try clear c3
                                try clear c6
                                try clear p6
                                try clear p17
                                try clear q17
                                try clear hx17
                                try clear p18
                                try clear q18
                                try clear hx18
                                try clear c26
                                try clear c27
                                try clear c27b0
                                try clear c28
                                try clear c29
                                try clear c29b0
                                try clear c30
                                try clear c31
                                try clear c32
                                try clear c32b0
                                try clear c33
                                try clear c34
                                try clear c61
                                try clear c61b0
                                try clear c62
                                try clear c62b0
                                try clear c63
                                try clear c63b0
                                try clear c64
                                try clear p64
                                try clear hcz54_0
                                try clear hcz54_1
                                try clear hcz54_2
                                try clear hcz54_3
                                try clear hcz58_0
                                try clear hcz58_1
                                try clear hcz58_2
                                try clear hcz58_3
                                try clear hfz54_0
                                try clear hfz54_1
                                try clear hfz54_2
                                try clear hfz54_3
                                try clear hfz58_0
                                try clear hfz58_1
                                try clear hfz58_2
                                try clear hfz58_3
                                try clear hx179_0
                                try clear hx179_1
                                try clear hx179_2
                                try clear hx179_3
                                try clear hx181_0
                                try clear hx187_0
                                try clear p179
                                try clear p181
                                try clear p187
                                try clear q179
                                try clear q181
                                try clear q187
                                obtain ⟨x16_3, x17_3, rfl, HA, HK3, HO_10, HO_11, HO_16, HB⟩ := hrel
                                cases gk with
                                | zero => exact absurd HA.out (by simp [turndownref08_shortest.l3])
                                | succ k3 =>
                                  have H := HA.out
                                  clear HA
                                  simp only [turndownref08_shortest.l3] at H
                                  by_cases c66 : x17_3 = a2
                                  · rw [if_pos c66] at H
                                    have c66b0 : (x17_3 == a2) = true := beq_iff_eq.mpr c66
                                    have c66b1 : (x17_3 != a2) = false := bne_eq_false_iff_eq.mpr c66
                                    clear c66
                                    by_cases c67 : 0 ≤ a3
                                    · rw [if_pos c67] at H
                                      have c67b0 : decide (0 ≤ a3) = true := decide_eq_true c67
                                      clear c67
                                      by_cases c68 : a3 < (x10_2.length : Int)
                                      · rw [if_pos c68] at H
                                        have c68b0 : decide (a3 < (x10_2.length : Int)) = true := decide_eq_true c68
                                        clear c68
                                        simp only [Option.some.injEq, Prod.mk.injEq] at H
                                        obtain ⟨rfl, rfl⟩ := H
                                        have p191 : 0 ≤ (a3 : Int) := of_decide_eq_true (by first | (with_reducible assumption) | assumption)
                                        have q191 : a3 < (x10_2.length : Int) := of_decide_eq_true (by first | (with_reducible assumption) | assumption)
                                        obtain ⟨ad191, e191, hx191_0⟩ := Kd.at_int (Kd.R_reads' HO_10.out).2.2 a3 p191 q191
                                        obtain rfl : (⟨go23, 0, none⟩ : Addr) = ad191 := (by injection e191)
                                        (first | simp only [add_plain] at hx191_0 | simp only [add_at] at hx191_0 | simp only [Addr.add, Nat.zero_add] at hx191_0 | skip)
                                        replace p191 := eq_true p191
                                        replace q191 := eq_true q191
                                        go_wp2
                                        go_ret2
                                        exact ⟨_, by first | rfl | (simp [errW_none, errW_some] <;> rfl) | (simp [*, errW_none, errW_some] <;> rfl), by (with_reducible repeat (first | apply Kd.R_alloc | apply Kd.R_drewN | apply Kd.R_drew)); exact HO_16.out, by repeat (first | (with_reducible first | exact HB.out | apply below_alloc | apply pw_below_drewN | apply below_drew1) | exact HB.out)⟩
                                      · rw [if_neg c68] at H
                                        exact absurd H (by simp)
                                    · rw [if_neg c67] at H
                                      exact absurd H (by simp)
                                  · rw [if_neg c66] at H
                                    have c66b0 : (x17_3 == a2) = false := beq_eq_false_iff_ne.mpr c66
                                    have c66b1 : (x17_3 != a2) = true := bne_iff_ne.mpr c66
                                    by_cases c69 : 0 ≤ x17_3
                                    · rw [if_pos c69] at H
                                      have c69b0 : decide (0 ≤ x17_3) = true := decide_eq_true c69
                                      clear c69
                                      by_cases c70 : x17_3 < (x11_2.length : Int)
                                      · rw [if_pos c70] at H
                                        have c70b0 : decide (x17_3 < (x11_2.length : Int)) = true := decide_eq_true c70
                                        clear c70
                                        by_cases c71 : 0 ≤ (rd x11_2 x17_3)
                                        · rw [if_pos c71] at H
                                          have c71b0 : decide (0 ≤ (rd x11_2 x17_3)) = true := decide_eq_true c71
                                          clear c71
                                          by_cases c72 : (rd x11_2 x17_3) < (x16_3.length : Int)
                                          · rw [if_pos c72] at H
                                            have c72b0 : decide ((rd x11_2 x17_3) < (x16_3.length : Int)) = true := decide_eq_true c72
                                            clear c72
                                            obtain ⟨y194, hy194⟩ : ∃ y_ : List (S74), y_ = (x16_3.set ((rd x11_2 x17_3) : Int).toNat (⟨(rd_T74 x16_3 (rd x11_2 x17_3)).f0, (rd_T74 x16_3 (rd x11_2 x17_3)).f1, wrap64 (((rd_T74 x16_3 (rd x11_2 x17_3)).f2) - 1), (rd_T74 x16_3 (rd x11_2 x17_3)).f3⟩ : S74)) := ⟨_, rfl⟩
                                            replace H : (if 0 ≤ (wrap64 ((wrap64 ((rd x11_2 x17_3) + 1)) - (wrap64 (2 * (Int.tmod (rd x11_2 x17_3) 2))))) then (if (wrap64 ((wrap64 ((rd x11_2 x17_3) + 1)) - (wrap64 (2 * (Int.tmod (rd x11_2 x17_3) 2))))) < (x16_3.length : Int) then ((some (y194.set ((wrap64 ((wrap64 ((rd x11_2 x17_3) + 1)) - (wrap64 (2 * (Int.tmod (rd x11_2 x17_3) 2))))) : Int).toNat (⟨(rd_T74 y194 (wrap64 ((wrap64 ((rd x11_2 x17_3) + 1)) - (wrap64 (2 * (Int.tmod (rd x11_2 x17_3) 2)))))).f0, (rd_T74 y194 (wrap64 ((wrap64 ((rd x11_2 x17_3) + 1)) - (wrap64 (2 * (Int.tmod (rd x11_2 x17_3) 2)))))).f1, wrap64 (((rd_T74 y194 (wrap64 ((wrap64 ((rd x11_2 x17_3) + 1)) - (wrap64 (2 * (Int.tmod (rd x11_2 x17_3) 2)))))).f2) + 1), (rd_T74 y194 (wrap64 ((wrap64 ((rd x11_2 x17_3) + 1)) - (wrap64 (2 * (Int.tmod (rd x11_2 x17_3) 2)))))).f3⟩ : S74) : List (S74))).bind fun y196 => (turndownref08_shortest.l3 k3 a2 a3 x10_2 x11_2 y196 ((rd_T74 y196 (rd x11_2 x17_3)).f0))) else (none)) else (none)) = some (r1, r2) := by first | (rw [hy194]; with_reducible exact H) | (have H2_ := (Option.bind_some _ _).symm.trans H; rw [hy194]; with_reducible exact H2_) | (have H2_ := (Option.bind_some _ _).symm.trans H; with_reducible exact H2_) | with_reducible exact H | (rw [hy194]; exact H) | exact H
                                            have Ny194 := Aside0.mk hy194
                                            clear hy194
                                            obtain ⟨ji74, hji74⟩ : ∃ j_ : Int, (wrap64 ((wrap64 ((rd x11_2 x17_3) + 1)) - (wrap64 (2 * (Int.tmod (rd x11_2 x17_3) 2))))) = j_ := ⟨_, rfl⟩
                                            replace H : (if 0 ≤ (ji74) then (if (ji74) < (x16_3.length : Int) then ((some (y194.set ((ji74) : Int).toNat (⟨(rd_T74 y194 (ji74)).f0, (rd_T74 y194 (ji74)).f1, wrap64 (((rd_T74 y194 (ji74)).f2) + 1), (rd_T74 y194 (ji74)).f3⟩ : S74) : List (S74))).bind fun y196 => (turndownref08_shortest.l3 k3 a2 a3 x10_2 x11_2 y196 ((rd_T74 y196 (rd x11_2 x17_3)).f0))) else (none)) else (none)) = some (r1, r2) := by first | (rw [hji74] at H; exact H) | (simp only [hji74] at H ⊢; exact H)
                                            have hji74w : (IntKind.i64.wrap ((wrap64 ((rd x11_2 x17_3) + 1)) - (wrap64 (2 * (Int.tmod (rd x11_2 x17_3) 2))))) = ji74 := (i64_w _).trans hji74
                                            by_cases c75 : 0 ≤ (ji74)
                                            · rw [if_pos c75] at H
                                              have c75b0 : decide (0 ≤ (ji74)) = true := decide_eq_true c75
                                              clear c75
                                              by_cases c76 : (ji74) < (x16_3.length : Int)
                                              · rw [if_pos c76] at H
                                                have c76b0 : decide ((ji74) < (x16_3.length : Int)) = true := decide_eq_true c76
                                                clear c76
                                                obtain ⟨y196, hy196⟩ : ∃ y_ : List (S74), y_ = (y194.set ((ji74) : Int).toNat (⟨(rd_T74 y194 (ji74)).f0, (rd_T74 y194 (ji74)).f1, wrap64 (((rd_T74 y194 (ji74)).f2) + 1), (rd_T74 y194 (ji74)).f3⟩ : S74)) := ⟨_, rfl⟩
                                                replace H : (turndownref08_shortest.l3 k3 a2 a3 x10_2 x11_2 y196 ((rd_T74 y196 (rd x11_2 x17_3)).f0)) = some (r1, r2) := by first | (rw [hy196]; with_reducible exact H) | (have H2_ := (Option.bind_some _ _).symm.trans H; rw [hy196]; with_reducible exact H2_) | (have H2_ := (Option.bind_some _ _).symm.trans H; with_reducible exact H2_) | with_reducible exact H | (rw [hy196]; exact H) | exact H
                                                have Ny196 := Aside0.mk hy196
                                                clear hy196
                                                have H' := Aside0.mk H
                                                clear H
                                                obtain ⟨Ao78, co78, eo78⟩ := Kd.R_slice HO_11.out
                                                subst eo78
                                                have p192 : 0 ≤ (x17_3 : Int) := of_decide_eq_true (by first | (with_reducible assumption) | assumption)
                                                have q192 : x17_3 < (x11_2.length : Int) := of_decide_eq_true (by first | (with_reducible assumption) | assumption)
                                                obtain ⟨ad192, e192, hx192_0⟩ := Kd.at_int (Kd.R_reads' HO_11.out).2.2 x17_3 p192 q192
                                                cases e192
                                                replace p192 := eq_true p192
                                                replace q192 := eq_true q192
                                                obtain ⟨Ao79, co79, eo79⟩ := Kd.R_slice HO_16.out
                                                subst eo79
                                                have p193 : 0 ≤ ((rd x11_2 x17_3) : Int) := of_decide_eq_true (by first | (with_reducible assumption) | assumption)
                                                have q193 : (rd x11_2 x17_3) < (x16_3.length : Int) := of_decide_eq_true (by first | (with_reducible assumption) | assumption)
                                                obtain ⟨ad193, e193, hx193_0, hx193_1, hx193_2, hx193_3⟩ := at_T74 (Kd.R_reads' HO_16.out).2.2 (rd x11_2 x17_3) p193 q193
                                                cases e193
                                                replace p193 := eq_true p193
                                                replace q193 := eq_true q193
                                                have p73 : 0 ≤ ((rd x11_2 x17_3) : Int) := of_decide_eq_true (by first | (with_reducible assumption) | assumption)
                                                have q73 : ((rd x11_2 x17_3) : Int) < ((x16_3.length : Int) : Int) := of_decide_eq_true (by first | (with_reducible assumption) | assumption)
                                                obtain ⟨go73, co73, eo73, gb73, gl73, cl73, HG73⟩ := Kd.R_form HO_16.out (by omega)
                                                (first | cases eo73 | (injection eo73 with ea_ en_ ec_; (first | subst ea_ | (injection ea_ with ea_; subst ea_)); subst ec_; clear en_))
                                                have GB73 := Aside0.mk gb73
                                                have GG73 := Aside0.mk HG73
                                                clear gb73 gl73 HG73
                                                (first | simp only [add_plain] at hx193_0 | skip)
                                                (first | simp only [add_plain] at hx193_1 | skip)
                                                (first | simp only [add_plain] at hx193_2 | skip)
                                                (first | simp only [add_plain] at hx193_3 | skip)
                                                obtain ⟨ce73, hcl73, hM73, hcc73, hfr73⟩ := Kd.R_elem HO_16.out z74 ((rd x11_2 x17_3) : Int) p73 q73
                                                obtain rfl := k74_openM hM73
                                                have hx73_0 : wr.cell? ⟨go73, ((rd x11_2 x17_3) : Int).toNat * 4, none⟩ = some (.int .i64 ((rd_T74 x16_3 (rd x11_2 x17_3)).f0)) := hcc73 0 _ rfl
                                                have hx73_1 : wr.cell? ⟨go73, ((rd x11_2 x17_3) : Int).toNat * 4 + 1, none⟩ = some (.int .i64 ((rd_T74 x16_3 (rd x11_2 x17_3)).f1)) := hcc73 1 _ rfl
                                                have hx73_2 : wr.cell? ⟨go73, ((rd x11_2 x17_3) : Int).toNat * 4 + 2, none⟩ = some (.int .i64 ((rd_T74 x16_3 (rd x11_2 x17_3)).f2)) := hcc73 2 _ rfl
                                                have hx73_3 : wr.cell? ⟨go73, ((rd x11_2 x17_3) : Int).toNat * 4 + 3, none⟩ = some (.int .i64 ((rd_T74 x16_3 (rd x11_2 x17_3)).f3)) := hcc73 3 _ rfl
                                                have hf73_0 : wr.frozen? ⟨go73, ((rd x11_2 x17_3) : Int).toNat * 4, none⟩ = false := hfr73 0
                                                have hf73_1 : wr.frozen? ⟨go73, ((rd x11_2 x17_3) : Int).toNat * 4 + 1, none⟩ = false := hfr73 1
                                                have hf73_2 : wr.frozen? ⟨go73, ((rd x11_2 x17_3) : Int).toNat * 4 + 2, none⟩ = false := hfr73 2
                                                have hf73_3 : wr.frozen? ⟨go73, ((rd x11_2 x17_3) : Int).toNat * 4 + 3, none⟩ = false := hfr73 3
                                                clear hcl73 hcc73 hfr73 hM73
                                                replace p73 := eq_true p73
                                                replace q73 := eq_true q73
                                                have HX80 := Aside0.mk (show Kd.R k74 74 wr w.heap.size (fun _ => True) (.slice (some ⟨go73, 0, none⟩) x16_3.length co79) x16_3 from (by (with_reducible repeat (first | apply Kd.R_alloc | apply Kd.R_drewN | apply Kd.R_drew)); exact HO_16.out))
                                                obtain ⟨ce80, hcl80, hM80, hcc80, hfr80⟩ := Kd.R_elem HX80.out z74 ((rd x11_2 x17_3) : Int) (of_decide_eq_true (by first | (with_reducible assumption) | assumption)) (by have h_ : ((rd x11_2 x17_3) : Int) < ((x16_3.length : Int) : Int) := of_decide_eq_true (by first | (with_reducible assumption) | assumption); first | exact h_ | (have e_ := (Kd.R_reads' HO_16.out).1; omega) | simpa using h_)
                                                obtain rfl := k74_openM hM80
                                                have HP80 := Kd.R_seg HX80.out ((rd x11_2 x17_3) : Int) (of_decide_eq_true (by first | (with_reducible assumption) | assumption)) (by have h_ : ((rd x11_2 x17_3) : Int) < ((x16_3.length : Int) : Int) := of_decide_eq_true (by first | (with_reducible assumption) | assumption); first | exact h_ | (have e_ := (Kd.R_reads' HO_16.out).1; omega) | simpa using h_) (seg := [.int .i64 (wrap64 (((rd_T74 x16_3 (rd x11_2 x17_3)).f2) - 1))]) (j := 2) hcl80 hcc80 (show 3 ≤ 4 from by decide) (x' := (⟨(rd_T74 x16_3 (rd x11_2 x17_3)).f0, (rd_T74 x16_3 (rd x11_2 x17_3)).f1, wrap64 (((rd_T74 x16_3 (rd x11_2 x17_3)).f2) - 1), (rd_T74 x16_3 (rd x11_2 x17_3)).f3⟩ : S74)) (k74_mkM _ _ _ (⟨(rd_T74 x16_3 (rd x11_2 x17_3)).f0, (rd_T74 x16_3 (rd x11_2 x17_3)).f1, wrap64 (((rd_T74 x16_3 (rd x11_2 x17_3)).f2) - 1), (rd_T74 x16_3 (rd x11_2 x17_3)).f3⟩ : S74) ) (fun _ hk => hk)
                                                have hx80_2 := hcc80 2 _ rfl
                                                (try simp only [show (k74).sz = 4 from rfl, Nat.mul_one, Nat.add_zero] at hx80_2)
                                                have hf80_2 := hfr80 2
                                                (try simp only [show (k74).sz = 4 from rfl, Nat.mul_one, Nat.add_zero] at hf80_2)
                                                clear hcl80 hcc80 hfr80 hM80
                                                go_wp2_with (first | ((with_reducible refine gate_store (t := 3) (p := 124) rfl ?_); refine store_event (t := 3) (p := 124) (v := ?vo_w81) (w1 := (wr.setCell ⟨go73, ((rd x11_2 x17_3) : Int).toNat * 4 + 2, none⟩ (.int .i64 (wrap64 (((rd_T74 x16_3 (rd x11_2 x17_3)).f2) - 1))))) ?hg ?ho ?hn ?hr ?_; (case ho => rfl); (case hg => rfl); (case hn => rfl); (case hr => first | (go_simp; done) | (go_simp; rfl)); intro w81 hw; have hg : wr.grownBy w81 (some go73) := (by rw [hw]; exact HP80.2); have hp_ : Kd.R k74 74 w81 w.heap.size (fun _ => True) (.slice (some ⟨go73, 0, none⟩) x16_3.length co79) y194 := (by rw [hw, Ny194.out]; exact HP80.1); clear HP80; have n0_ := Aside0.mk (Kd.R_over' (v := (.slice (some ⟨go73, 0, none⟩) x16_3.length co79)) (by (with_reducible repeat (first | apply Kd.R_alloc | apply Kd.R_drewN | apply Kd.R_drew)); exact HO_10.out) (Kd.R_typed HO_16.out) (by decide) hg); have n1_ := Aside0.mk (Kd.R_over' (v := (.slice (some ⟨go73, 0, none⟩) x16_3.length co79)) (by (with_reducible repeat (first | apply Kd.R_alloc | apply Kd.R_drewN | apply Kd.R_drew)); exact HO_11.out) (Kd.R_typed HO_16.out) (by decide) hg); have n2_ := Aside0.mk (hp_); have n3_ := Aside0.mk ((by rw [hw]; exact below_set (HB.out) GB73.out : Below w.heap.size w w81)); clear HO_10; clear HO_11; clear HO_16; clear HB; have HO_10 := n0_; have HO_11 := n1_; have HO_16 := n2_; have HB := n3_; clear n0_ n1_ n2_ n3_; clear hg hw hp_; have p195 : 0 ≤ ((ji74) : Int) := of_decide_eq_true (by first | (with_reducible assumption) | assumption); have q195 : (ji74) < (y194.length : Int) := (by have h_ : ((ji74) : Int) < ((x16_3.length : Int) : Int) := of_decide_eq_true (by first | (with_reducible assumption) | assumption); first | (have e_ := (Kd.R_reads' HO_16.out).1; omega) | simpa only [Ny194.out, List.length_set] using h_); have ql195 : (((ji74) : Int) < ((x16_3.length : Int) : Int)) = True := eq_true (of_decide_eq_true (by first | (with_reducible assumption) | assumption)); obtain ⟨ad195, e195, hx195_0, hx195_1, hx195_2, hx195_3⟩ := at_T74 (Kd.R_reads' HO_16.out).2.2 (ji74) p195 q195; obtain rfl : (⟨go73, 0, none⟩ : Addr) = ad195 := (by injection e195); (first | simp only [add_plain] at hx195_0 | simp only [add_at] at hx195_0 | simp only [Addr.add, Nat.zero_add] at hx195_0 | skip); (first | simp only [add_plain] at hx195_1 | simp only [add_at] at hx195_1 | simp only [Addr.add, Nat.zero_add] at hx195_1 | skip); (first | simp only [add_plain] at hx195_2 | simp only [add_at] at hx195_2 | simp only [Addr.add, Nat.zero_add] at hx195_2 | skip); (first | simp only [add_plain] at hx195_3 | simp only [add_at] at hx195_3 | simp only [Addr.add, Nat.zero_add] at hx195_3 | skip); replace p195 := eq_true p195; replace q195 := eq_true q195; have p77 : 0 ≤ ((ji74) : Int) := of_decide_eq_true (by first | (with_reducible assumption) | assumption); have q77 : ((ji74) : Int) < ((x16_3.length : Int) : Int) := of_decide_eq_true (by first | (with_reducible assumption) | assumption); obtain ⟨ce77, hcl77, hM77, hcc77, hfr77⟩ := Kd.R_elem HO_16.out z74 ((ji74) : Int) p77 q77; obtain rfl := k74_openM hM77; have hx77_0 : w81.cell? ⟨go73, ((ji74) : Int).toNat * 4, none⟩ = some (.int .i64 ((rd_T74 y194 (ji74)).f0)) := hcc77 0 _ rfl; have hx77_1 : w81.cell? ⟨go73, ((ji74) : Int).toNat * 4 + 1, none⟩ = some (.int .i64 ((rd_T74 y194 (ji74)).f1)) := hcc77 1 _ rfl; have hx77_2 : w81.cell? ⟨go73, ((ji74) : Int).toNat * 4 + 2, none⟩ = some (.int .i64 ((rd_T74 y194 (ji74)).f2)) := hcc77 2 _ rfl; have hx77_3 : w81.cell? ⟨go73, ((ji74) : Int).toNat * 4 + 3, none⟩ = some (.int .i64 ((rd_T74 y194 (ji74)).f3)) := hcc77 3 _ rfl; have hf77_0 : w81.frozen? ⟨go73, ((ji74) : Int).toNat * 4, none⟩ = false := hfr77 0; have hf77_1 : w81.frozen? ⟨go73, ((ji74) : Int).toNat * 4 + 1, none⟩ = false := hfr77 1; have hf77_2 : w81.frozen? ⟨go73, ((ji74) : Int).toNat * 4 + 2, none⟩ = false := hfr77 2; have hf77_3 : w81.frozen? ⟨go73, ((ji74) : Int).toNat * 4 + 3, none⟩ = false := hfr77 3; clear hcl77 hcc77 hfr77 hM77; replace p77 := eq_true p77; replace q77 := eq_true q77; have HX82 := Aside0.mk (show Kd.R k74 74 w81 w.heap.size (fun _ => True) (.slice (some ⟨go73, 0, none⟩) x16_3.length co79) y194 from (by (with_reducible repeat (first | apply Kd.R_alloc | apply Kd.R_drewN | apply Kd.R_drew)); exact HO_16.out)); obtain ⟨ce82, hcl82, hM82, hcc82, hfr82⟩ := Kd.R_elem HX82.out z74 ((ji74) : Int) (of_decide_eq_true (by first | (with_reducible assumption) | assumption)) (by have h_ : ((ji74) : Int) < ((x16_3.length : Int) : Int) := of_decide_eq_true (by first | (with_reducible assumption) | assumption); first | exact h_ | (have e_ := (Kd.R_reads' HO_16.out).1; omega) | simpa using h_); obtain rfl := k74_openM hM82; have HP82 := Kd.R_seg HX82.out ((ji74) : Int) (of_decide_eq_true (by first | (with_reducible assumption) | assumption)) (by have h_ : ((ji74) : Int) < ((x16_3.length : Int) : Int) := of_decide_eq_true (by first | (with_reducible assumption) | assumption); first | exact h_ | (have e_ := (Kd.R_reads' HO_16.out).1; omega) | simpa using h_) (seg := [.int .i64 (wrap64 (((rd_T74 y194 (ji74)).f2) + 1))]) (j := 2) hcl82 hcc82 (show 3 ≤ 4 from by decide) (x' := (⟨(rd_T74 y194 (ji74)).f0, (rd_T74 y194 (ji74)).f1, wrap64 (((rd_T74 y194 (ji74)).f2) + 1), (rd_T74 y194 (ji74)).f3⟩ : S74)) (k74_mkM _ _ _ (⟨(rd_T74 y194 (ji74)).f0, (rd_T74 y194 (ji74)).f1, wrap64 (((rd_T74 y194 (ji74)).f2) + 1), (rd_T74 y194 (ji74)).f3⟩ : S74) ) (fun _ hk => hk); have hx82_2 := hcc82 2 _ rfl; (try simp only [show (k74).sz = 4 from rfl, Nat.mul_one, Nat.add_zero] at hx82_2); have hf82_2 := hfr82 2; (try simp only [show (k74).sz = 4 from rfl, Nat.mul_one, Nat.add_zero] at hf82_2); clear hcl82 hcc82 hfr82 hM82) | ((with_reducible refine gate_store (t := 3) (p := 134) rfl ?_); refine store_event (t := 3) (p := 134) (v := ?vo_w83) (w1 := (w81.setCell ⟨go73, ((ji74) : Int).toNat * 4 + 2, none⟩ (.int .i64 (wrap64 (((rd_T74 y194 (ji74)).f2) + 1))))) ?hg ?ho ?hn ?hr ?_; (case ho => rfl); (case hg => rfl); (case hn => rfl); (case hr => first | (go_simp; done) | (go_simp; rfl)); intro w83 hw; have hg : w81.grownBy w83 (some go73) := (by rw [hw]; exact HP82.2); have hp_ : Kd.R k74 74 w83 w.heap.size (fun _ => True) (.slice (some ⟨go73, 0, none⟩) x16_3.length co79) y196 := (by rw [hw, Ny196.out]; exact HP82.1); clear HP82; have n0_ := Aside0.mk (Kd.R_over' (v := (.slice (some ⟨go73, 0, none⟩) x16_3.length co79)) (by (with_reducible repeat (first | apply Kd.R_alloc | apply Kd.R_drewN | apply Kd.R_drew)); exact HO_10.out) (Kd.R_typed HO_16.out) (by decide) hg); have n1_ := Aside0.mk (Kd.R_over' (v := (.slice (some ⟨go73, 0, none⟩) x16_3.length co79)) (by (with_reducible repeat (first | apply Kd.R_alloc | apply Kd.R_drewN | apply Kd.R_drew)); exact HO_11.out) (Kd.R_typed HO_16.out) (by decide) hg); have n2_ := Aside0.mk (hp_); have n3_ := Aside0.mk ((by rw [hw]; exact below_set (HB.out) GB73.out : Below w.heap.size w w83)); clear HO_10; clear HO_11; clear HO_16; clear HB; have HO_10 := n0_; have HO_11 := n1_; have HO_16 := n2_; have HB := n3_; clear n0_ n1_ n2_ n3_; clear hg hw hp_; have p197 : 0 ≤ ((rd x11_2 x17_3) : Int) := of_decide_eq_true (by first | (with_reducible assumption) | assumption); have q197 : (rd x11_2 x17_3) < (y196.length : Int) := (by have h_ : ((rd x11_2 x17_3) : Int) < ((x16_3.length : Int) : Int) := of_decide_eq_true (by first | (with_reducible assumption) | assumption); first | (have e_ := (Kd.R_reads' HO_16.out).1; omega) | simpa only [Ny194.out, Ny196.out, List.length_set] using h_); have ql197 : (((rd x11_2 x17_3) : Int) < ((x16_3.length : Int) : Int)) = True := eq_true (of_decide_eq_true (by first | (with_reducible assumption) | assumption)); obtain ⟨ad197, e197, hx197_0, hx197_1, hx197_2, hx197_3⟩ := at_T74 (Kd.R_reads' HO_16.out).2.2 (rd x11_2 x17_3) p197 q197; obtain rfl : (⟨go73, 0, none⟩ : Addr) = ad197 := (by injection e197); (first | simp only [add_plain] at hx197_0 | simp only [add_at] at hx197_0 | simp only [Addr.add, Nat.zero_add] at hx197_0 | skip); (first | simp only [add_plain] at hx197_1 | simp only [add_at] at hx197_1 | simp only [Addr.add, Nat.zero_add] at hx197_1 | skip); (first | simp only [add_plain] at hx197_2 | simp only [add_at] at hx197_2 | simp only [Addr.add, Nat.zero_add] at hx197_2 | skip); (first | simp only [add_plain] at hx197_3 | simp only [add_at] at hx197_3 | simp only [Addr.add, Nat.zero_add] at hx197_3 | skip); replace p197 := eq_true p197; replace q197 := eq_true q197))
                                                go_roundg k3
                                                case measure => have := HK1.out; have := HK2.out; have := HK3.out; omega
                                                case rel => exact ⟨(y196), ((rd_T74 y196 (rd x11_2 x17_3)).f0), (by first | rfl | (simp; done) | (simp [*]; done)), H', ⟨by have := HK1.out; have := HK2.out; have := HK3.out; omega⟩, ⟨by (try simp only [hl10_2]); (with_reducible repeat (first | apply Kd.R_alloc | apply Kd.R_drewN | apply Kd.R_drew)); exact HO_10.out⟩, ⟨by (try simp only [hl10_2]); (with_reducible repeat (first | apply Kd.R_alloc | apply Kd.R_drewN | apply Kd.R_drew)); exact HO_11.out⟩, ⟨by (try simp only [hl10_2]); (with_reducible repeat (first | apply Kd.R_alloc | apply Kd.R_drewN | apply Kd.R_drew)); exact HO_16.out⟩, ⟨by repeat (first | (with_reducible first | exact HB.out | apply below_alloc | apply pw_below_drewN | apply below_drew1) | exact HB.out)⟩⟩
                                              · rw [if_neg c76] at H
                                                exact absurd H (by simp)
                                            · rw [if_neg c75] at H
                                              exact absurd H (by simp)
                                          · rw [if_neg c72] at H
                                            exact absurd H (by simp)
                                        · rw [if_neg c71] at H
                                          exact absurd H (by simp)
                                      · rw [if_neg c70] at H
                                        exact absurd H (by simp)
                                    · rw [if_neg c69] at H
                                      exact absurd H (by simp)
                            · rw [if_neg c64] at H
                              exact absurd H (by simp)
                        · rw [if_neg c62] at H
                          exact absurd H (by simp)
                      · rw [if_neg c61] at H
                        exact absurd H (by simp)
              · rw [if_neg c22] at H
                exact absurd H (by simp)
            · rw [if_neg c21] at H
              exact absurd H (by simp)
    · rw [if_neg c6] at H
      exact absurd H (by simp)
  · rw [if_neg c5] at H
    exact absurd H (by simp)
end Go.Proofs.Ytpjobcnfjpbaeaa.PA

namespace Go.Proofs.Ytpjobcnfjpbaeaa.M
open Go.RowKit Go.Proofs.YtpjobcnfjpbaeaaW.PrintWords Go.Proofs.YtpjobcnfjpbaeaaW.PrintLast Go.Proofs.YtpjobcnfjpbaeaaW.PrintMore
open Go.Proofs.Ytpjobcnfjpbaeaa.PA
structure RepT (P : Pairs) (φ : Nat → Int) (arcs : List S74) : Prop where
  len : arcs.length = 2 * P.n
  fwd : ∀ j, j < P.n → arcs[2 * j]? = some ⟨P.F j, P.T j, P.c j - φ j, -P.g j⟩
  bwd : ∀ j, j < P.n → arcs[2 * j + 1]? = some ⟨P.T j, P.F j, φ j, P.g j⟩
def gn (best : List Int) : Nat → Int := fun v => -(best.getD v 0)
theorem getD_set {g : List Int} {k : Nat} (h : k < g.length) (x : Int) (v : Nat) : (g.set k x).getD v 0 = if v = k then x else g.getD v 0 := by
  by_cases e : v = k
  · subst e; simp [h]
  · simp [e, List.getD_eq_getElem?_getD, List.getElem?_set_ne (Ne.symm e)]
end Go.Proofs.Ytpjobcnfjpbaeaa.M

namespace Go.Proofs.Ytpjobcnfjpbaeaa.M
open Go.RowKit Go.Proofs.YtpjobcnfjpbaeaaW.PrintWords Go.Proofs.YtpjobcnfjpbaeaaW.PrintLast Go.Proofs.YtpjobcnfjpbaeaaW.PrintMore
open Go.Proofs.Ytpjobcnfjpbaeaa.PA Go.Proofs.Ytpjobcnfjpbaeaa.A
structure Rep (P : Pairs) (φ : Nat → Int) (arcs : List S106) : Prop where
  len : arcs.length = 2 * P.n
  fwd : ∀ j, j < P.n → arcs[2 * j]? = some ⟨P.F j, P.T j, P.c j - φ j, P.g j⟩
  bwd : ∀ j, j < P.n → arcs[2 * j + 1]? = some ⟨P.T j, P.F j, φ j, -P.g j⟩
def gf (g : List Int) : Nat → Int := fun v => g.getD v 0
end Go.Proofs.Ytpjobcnfjpbaeaa.M

namespace Go.Proofs.Ytpjobcnfjpbaeaa.M
open Go.RowKit Go.Proofs.YtpjobcnfjpbaeaaW.PrintWords Go.Proofs.YtpjobcnfjpbaeaaW.PrintLast Go.Proofs.YtpjobcnfjpbaeaaW.PrintMore
open Go.Proofs.Ytpjobcnfjpbaeaa.PA Go.Proofs.Ytpjobcnfjpbaeaa.A
theorem Rep.push {P : Pairs} {φ : Nat → Int} {arcs : List S106} (h : Rep P φ arcs) (f t : Nat) (g c y r : Int) (hr : r = c - y) (hg : -1000000 ≤ g ∧ g ≤ 1000000) : Rep (P.push f t g c) (upd φ P.n y) (addF arcs f t r g y) := by
  have hw : IntKind.i64.wrap (-g) = -g := by rw [i64_w]; unfold wrap64; omega
  have hl := h.len
  subst hr
  unfold addF
  rw [hw]
  refine ⟨by simp [Pairs.push, hl]; omega, fun j hj => ?_, fun j hj => ?_⟩
  · simp only [Pairs.push] at hj ⊢
    by_cases e : j = P.n
    · subst e
      simp only [upd_same]
      rw [List.getElem?_append_right (by omega), hl]
      simp
    · simp only [upd_ne e]
      rw [List.getElem?_append_left (by omega)]
      exact h.fwd j (by omega)
  · simp only [Pairs.push] at hj ⊢
    by_cases e : j = P.n
    · subst e
      simp only [upd_same]
      rw [List.getElem?_append_right (by omega), hl, show 2 * P.n + 1 - 2 * P.n = 1 by omega]
      simp
    · simp only [upd_ne e]
      rw [List.getElem?_append_left (by omega)]
      exact h.bwd j (by omega)
def inst (l : List S47) (rooms : List Int) : Inst := {
  L := l.length
  f := fun i => (l.getD i z47).f0.toNat
  t := fun i => (l.getD i z47).f1.toNat
  p := fun i => (l.getD i z47).f2
  n := rooms.length
  R := fun k => rooms.getD k 0 }
theorem inst_ok {l : List S47} {rooms : List Int} (hg : A.Good l rooms) : (inst l rooms).Ok := {
  few := ⟨hg.many, hg.nights.2⟩
  nights := fun i hi => by
    have hi' : i < l.length := hi
    have hx : l.getD i z47 ∈ l := by rw [List.getD_eq_getElem?_getD, List.getElem?_eq_getElem hi']; exact List.getElem_mem hi'
    have := hg.from_ _ hx
    simp only [inst]
    omega
  price := fun i hi => by
    have hi' : i < l.length := hi
    have hx : l.getD i z47 ∈ l := by rw [List.getD_eq_getElem?_getD, List.getElem?_eq_getElem hi']; exact List.getElem_mem hi'
    exact hg.price _ hx
  room := fun k hk => by
    have hk' : k < rooms.length := hk
    have hx : rooms.getD k 0 ∈ rooms := by rw [List.getD_eq_getElem?_getD, List.getElem?_eq_getElem hk']; exact List.getElem_mem hk'
    exact hg.room _ hx }
theorem Rep.congr {P Q : Pairs} {φ : Nat → Int} {arcs : List S106} (h : Rep P φ arcs) (hn : Q.n = P.n) (h1 : ∀ j, j < P.n → Q.F j = P.F j ∧ Q.T j = P.T j ∧ Q.g j = P.g j ∧ Q.c j = P.c j) : Rep Q φ arcs := by
  refine ⟨by rw [hn]; exact h.len, fun j hj => ?_, fun j hj => ?_⟩
  · obtain ⟨a, b, c, d⟩ := h1 j (by omega); rw [a, b, c, d]; exact h.fwd j (by omega)
  · obtain ⟨a, b, c, d⟩ := h1 j (by omega); rw [a, b, c]; exact h.bwd j (by omega)
end Go.Proofs.Ytpjobcnfjpbaeaa.M

namespace Go.Proofs.Ytpjobcnfjpbaeaa.M
open Go.RowKit Go.Proofs.YtpjobcnfjpbaeaaW.PrintWords Go.Proofs.YtpjobcnfjpbaeaaW.PrintLast Go.Proofs.YtpjobcnfjpbaeaaW.PrintMore
open Go.Proofs.Ytpjobcnfjpbaeaa.PA Go.Proofs.Ytpjobcnfjpbaeaa.A
def ind (tk : List Int) : Nat → Int := fun i => if (i : Int) ∈ tk then 1 else 0
structure Asc (L : Nat) (tk : List Int) : Prop where
  asc : tk.Pairwise (· < ·)
  rng : ∀ x, x ∈ tk → 0 ≤ x ∧ x < L
def lsum (h : Nat → Int) : List Int → Int
  | [] => 0
  | x :: xs => h x.toNat + lsum h xs
theorem Asc.tail {L : Nat} {x : Int} {tk : List Int} (h : Asc L (x :: tk)) : Asc L tk := ⟨(List.pairwise_cons.1 h.asc).2, fun y hy => h.rng y (List.mem_cons_of_mem _ hy)⟩
theorem lsum_ind {L : Nat} (h : Nat → Int) : ∀ {tk : List Int}, Asc L tk → lsum h tk = sumTo L (fun i => ind tk i * h i)
  | [], _ => by
    rw [sumTo_zero (fun i _ => by simp [ind])]; rfl
  | x :: tk, ha => by
    obtain ⟨h0, h1⟩ := ha.rng x List.mem_cons_self
    obtain ⟨k, rfl⟩ := Int.eq_ofNat_of_zero_le h0
    have hn : (k : Int) ∉ tk := fun hm => by have := (List.pairwise_cons.1 ha.asc).1 _ hm; omega
    simp only [lsum, Int.toNat_natCast]
    rw [lsum_ind h ha.tail, sumTo_one (n := L) (j := k) (by omega) (f := fun i => ind tk i * h i) (g := fun i => ind ((k : Int) :: tk) i * h i) (fun i _ hne => by
      have : ((i : Int) ∈ (k : Int) :: tk) ↔ (i : Int) ∈ tk := by simp; omega
      simp only [ind, this])]
    have e1 : ind ((k : Int) :: tk) k = 1 := by simp [ind]
    have e2 : ind tk k = 0 := by simp [ind, hn]
    simp only [e1, e2]
    omega
theorem ind_01 (tk : List Int) (i : Nat) : ind tk i = 0 ∨ ind tk i = 1 := by unfold ind; split <;> simp
theorem Inst.Fit.congr {I : Inst} {X Y : Nat → Int} (h : I.Fit X) (e : ∀ i, i < I.L → Y i = X i) : I.Fit Y := by
  refine ⟨fun i hi => by rw [e i hi]; exact h.one i hi, fun k hk => ?_⟩
  rw [sumTo_congr (g := fun i => X i * I.cov i k) (fun i hi => by rw [e i hi])]
  exact h.fit k hk
end Go.Proofs.Ytpjobcnfjpbaeaa.M

namespace Go.Proofs.Ytpjobcnfjpbaeaa.PA
open Go.RowKit Go.Proofs.YtpjobcnfjpbaeaaW.PrintWords Go.Proofs.YtpjobcnfjpbaeaaW.PrintLast Go.Proofs.YtpjobcnfjpbaeaaW.PrintMore
attribute [local go_sem] max2_int min2_int max_two min_two max_three min_three max_four min_four
set_option linter.unusedVariables false
set_option linter.unusedSimpArgs false
def turndownref08_add.f (l0 : List (S74)) (a1_0 : Int) (a1_1 : Int) (a1_2 : Int) (a1_3 : Int) : Option ((List (S74))) := if l0.length < 4398046511104 then ((some (l0 ++ [(⟨a1_0, a1_1, a1_2, a1_3⟩ : S74)] : List (S74))).bind fun y164 => (if y164.length < 4398046511104 then (some (y164 ++ [(⟨a1_1, a1_0, 0, wrap64 (-a1_3)⟩ : S74)])) else (none))) else (none)
set_option maxHeartbeats 8000000 in
set_option maxRecDepth 100000 in
theorem turndownref08_add.calls (P0_ : Nat → Prop) (u9000_ : Value) (l0 : List (S74)) (a1_0 : Int) (a1_1 : Int) (a1_2 : Int) (a1_3 : Int) (r : List (S74)) (w0 w : World) (hB : Below w0.heap.size w0 w) (ho0 : Kd.R k74 74 w w0.heap.size P0_ u9000_ l0) (h : turndownref08_add.f l0 a1_0 a1_1 a1_2 a1_3 = some r) :
    Calls Try.prog 45 #[u9000_, .agg #[.int .i64 a1_0, .int .i64 a1_1, .int .i64 a1_2, .int .i64 a1_3]] w fun e w' => ∃ v0_ : Value, e = .returned (v0_) ∧ Kd.R k74 74 w' w0.heap.size (fun k_ => (P0_ k_ ∨ w.heap.size ≤ k_)) v0_ r ∧ Below w0.heap.size w0 w' ∧ Kept w w' (fun k_ => P0_ k_) := by
  have hu74 := Try.underlying74
  have HO0 := Aside0.mk (show Kd.R k74 74 w w0.heap.size (fun k_ => (P0_ k_ ∨ w.heap.size ≤ k_)) u9000_ l0 from Kd.R_mono ho0 (fun k_ hk => (.inl hk)))
  have HK := Aside0.mk (Kept.refl w (fun k_ => P0_ k_))
  have HW0 := Aside0.mk hB.size
  have HB := Aside0.mk hB
  clear hB
  have H : (if l0.length < 4398046511104 then ((some (l0 ++ [(⟨a1_0, a1_1, a1_2, a1_3⟩ : S74)] : List (S74))).bind fun y164 => (if y164.length < 4398046511104 then (some (y164 ++ [(⟨a1_1, a1_0, 0, wrap64 (-a1_3)⟩ : S74)])) else (none))) else (none)) = some r := h
  clear h
  by_cases c3 : l0.length < 4398046511104
  · rw [if_pos c3] at H
    have LMc3 := Aside0.mk c3
    clear c3
    obtain ⟨y164, hy164⟩ : ∃ y_ : List (S74), y_ = (l0 ++ [(⟨a1_0, a1_1, a1_2, a1_3⟩ : S74)]) := ⟨_, rfl⟩
    replace H : (if y164.length < 4398046511104 then (some (y164 ++ [(⟨a1_1, a1_0, 0, wrap64 (-a1_3)⟩ : S74)])) else (none)) = some r := by first | (rw [hy164]; with_reducible exact H) | (have H2_ := (Option.bind_some _ _).symm.trans H; rw [hy164]; with_reducible exact H2_) | (have H2_ := (Option.bind_some _ _).symm.trans H; with_reducible exact H2_) | with_reducible exact H | (rw [hy164]; exact H) | exact H
    have Ny164 := Aside0.mk hy164
    clear hy164
    by_cases c4 : y164.length < 4398046511104
    · rw [if_pos c4] at H
      have LMc4 := Aside0.mk c4
      clear c4
      obtain ⟨y167, hy167⟩ : ∃ y_ : List (S74), y_ = (y164 ++ [(⟨a1_1, a1_0, 0, wrap64 (-a1_3)⟩ : S74)]) := ⟨_, rfl⟩
      replace H : (some y167) = some r := by first | (rw [hy167]; with_reducible exact H) | (have H2_ := (Option.bind_some _ _).symm.trans H; rw [hy167]; with_reducible exact H2_) | (have H2_ := (Option.bind_some _ _).symm.trans H; with_reducible exact H2_) | with_reducible exact H | (rw [hy167]; exact H) | exact H
      have Ny167 := Aside0.mk hy167
      clear hy167
      obtain rfl := Option.some.inj H
      go_enter Try.func45, Try.ntmps45
      go_wp2_with (first | ((with_reducible refine gate_dst (N := 3) rfl ?_); refine box_event ?hg (N := 3) ?hd (cs := #[.int .i64 a1_0, .int .i64 a1_1, .int .i64 a1_2, .int .i64 a1_3]) (t := 74) ?hr ?_; (case hd => rfl); (case hg => rfl); (case hr => first | (go_simp; done) | (go_simp; rfl)); intro gb163 hg w5 hbox hb; have n0_ := Aside0.mk (Kd.R_below (Kd.R_elderB (by (with_reducible repeat (first | apply Kd.R_alloc | apply Kd.R_drewN | apply Kd.R_drew)); exact HO0.out) gb163 (Nat.le_of_eq hg.symm)) hb); have n1_ := Aside0.mk (Kept.below (S := (fun k_ => P0_ k_)) (by repeat (first | (with_reducible first | exact HK.out | apply Kept.alloc | apply Kept.drewN | apply Kept.drew) | exact HK.out)) hb); have n2_ := Aside0.mk (below_step (by repeat (first | (with_reducible first | exact HB.out | apply below_alloc | apply pw_below_drewN | apply below_drew1) | exact HB.out)) hb); have n3_ := Aside0.mk (hbox); have n4_ := Aside0.mk ((by rw [hg]; exact (by first | exact HK.out.1 | exact (show Kept w _ (fun k_ => P0_ k_) from by repeat (first | (with_reducible first | exact HK.out | apply Kept.alloc | apply Kept.drewN | apply Kept.drew) | exact HK.out)).1) : w.heap.size ≤ gb163)); have n5_ := Aside0.mk ((by rw [hg]; exact (below_size (by repeat (first | (with_reducible first | exact HB.out | apply below_alloc | apply pw_below_drewN | apply below_drew1) | exact HB.out))) : w0.heap.size ≤ gb163)); clear HO0; clear HK; clear HB; have HO0 := n0_; have HK := n1_; have HB := n2_; have BK163 := n3_; have GW163 := n4_; have GE163 := n5_; clear n0_ n1_ n2_ n3_ n4_ n5_; clear hb hbox hg; have hcz6_0 : w5.cell? ⟨gb163, 0, none⟩ = some (.int .i64 a1_0) := (blk_cell BK163.out 0).trans rfl; have hcz6_1 : w5.cell? ⟨gb163, 1, none⟩ = some (.int .i64 a1_1) := (blk_cell BK163.out 1).trans rfl; have hcz6_2 : w5.cell? ⟨gb163, 2, none⟩ = some (.int .i64 a1_2) := (blk_cell BK163.out 2).trans rfl; have hcz6_3 : w5.cell? ⟨gb163, 3, none⟩ = some (.int .i64 a1_3) := (blk_cell BK163.out 3).trans rfl; have hfz6_0 := blk_frozen BK163.out 0; have hfz6_1 := blk_frozen BK163.out 1; have hfz6_2 := blk_frozen BK163.out 2; have hfz6_3 := blk_frozen BK163.out 3) | ((with_reducible refine gate_builtin (b := .append) (xs := #[.tmp 5, .tmp 7]) rfl ?_); at_builtin; refine Kd.R_append k74 (w0 := w0) w0.heap.size rfl (.tmp 5) (.tmp 7) 71 74 (.agg #[(.int .i64 0), (.int .i64 0), (.int .i64 0), (.int .i64 0)]) 32 rfl Try.underlying71 info74 rfl (by decide) (by omega) u9000_ l0 (⟨a1_0, a1_1, a1_2, a1_3⟩ : S74) [.int .i64 a1_0, .int .i64 a1_1, .int .i64 a1_2, .int .i64 a1_3] (fun k_ => (P0_ k_ ∨ w.heap.size ≤ k_) ∧ k_ ≠ gb163) (fun _ => False) rfl rfl ?aP (fun _ hk => hk.elim) ?aF ?aO ?aB ?aS ?aL ?_; (case aP => exact k74_mkM _ _ _ (⟨a1_0, a1_1, a1_2, a1_3⟩ : S74)); (case aB => exact (by repeat (first | (with_reducible first | exact HB.out | apply below_alloc | apply pw_below_drewN | apply below_drew1 | refine below_set ?_ GE163.out) | exact HB.out))); (case aF => exact (fun k_ hk => ⟨(.inr (Nat.le_trans (by first | exact HK.out.1 | exact (show Kept w _ (fun k_ => P0_ k_) from by repeat (first | (with_reducible first | exact HK.out | apply Kept.alloc | apply Kept.drewN | apply Kept.drew | refine Kept.setCell ?_ (.inr GW163.out) _) | exact HK.out)).1) hk)), Kd.freshB (g := gb163) (o := .cells #[.int .i64 a1_0, .int .i64 a1_1, .int .i64 a1_2, .int .i64 a1_3] 74 (0, 0)) (by (with_reducible repeat (first | refine blk_drewN ?_ _ | refine blk_drew ?_ | refine blk_alloc ?_ _)); exact BK163.out) k_ hk⟩)); (case aO => exact (by (with_reducible repeat (first | apply Kd.R_alloc | apply Kd.R_drewN | apply Kd.R_drew)); exact HO0.out)); (case aS => exact (below_size (by repeat (first | (with_reducible first | exact HB.out | apply below_alloc | apply pw_below_drewN | apply below_drew1 | refine below_set ?_ GE163.out) | exact HB.out)))); (case aL => have := LMc3.out; omega); intro v165 w7 ho hb hg hat; rw [← Ny164.out] at ho; have n0_ := Aside0.mk (blk_grown (g := gb163) (o := .cells #[.int .i64 a1_0, .int .i64 a1_1, .int .i64 a1_2, .int .i64 a1_3] 74 (0, 0)) (by (with_reducible repeat (first | refine blk_drewN ?_ _ | refine blk_drew ?_ | refine blk_alloc ?_ _)); exact BK163.out) hg (Kd.R_away HO0.out (fun _ hk => hk.2))); have n1_ := Aside0.mk (hb); have n2_ := Aside0.mk (Kept.of_grown (S := (fun k_ => P0_ k_)) hg (by repeat (first | (with_reducible first | exact HK.out | apply Kept.alloc | apply Kept.drewN | apply Kept.drew | refine Kept.setCell ?_ (.inr GW163.out) _) | exact HK.out)) (fun k_ e_ => (HO0.out.1 k_ e_).1)); have n3_ := Aside0.mk (ho); clear BK163; clear HB; clear HK; clear HO0; have BK163 := n0_; have HB := n1_; have HK := n2_; have HO166 := n3_; clear n0_ n1_ n2_ n3_; clear ho hb hg hat; have hcz8_0 : w7.cell? ⟨gb163, 0, none⟩ = some (.int .i64 a1_0) := (blk_cell BK163.out 0).trans rfl; have hcz8_1 : w7.cell? ⟨gb163, 1, none⟩ = some (.int .i64 a1_1) := (blk_cell BK163.out 1).trans rfl; have hcz8_2 : w7.cell? ⟨gb163, 2, none⟩ = some (.int .i64 a1_2) := (blk_cell BK163.out 2).trans rfl; have hcz8_3 : w7.cell? ⟨gb163, 3, none⟩ = some (.int .i64 a1_3) := (blk_cell BK163.out 3).trans rfl; have hfz8_0 := blk_frozen BK163.out 0; have hfz8_1 := blk_frozen BK163.out 1; have hfz8_2 := blk_frozen BK163.out 2; have hfz8_3 := blk_frozen BK163.out 3) | ((with_reducible refine gate_builtin (b := .append) (xs := #[.tmp 9, .tmp 18]) rfl ?_); at_builtin; refine Kd.R_append k74 (w0 := w0) w0.heap.size rfl (.tmp 9) (.tmp 18) 71 74 (.agg #[(.int .i64 0), (.int .i64 0), (.int .i64 0), (.int .i64 0)]) 32 rfl Try.underlying71 info74 rfl (by decide) (by omega) v165 y164 (⟨a1_1, a1_0, 0, wrap64 (-a1_3)⟩ : S74) [.int .i64 a1_1, .int .i64 a1_0, .int .i64 0, .int .i64 (wrap64 (-a1_3))] (fun k_ => (P0_ k_ ∨ w.heap.size ≤ k_) ∧ k_ ≠ gb163) (fun _ => False) rfl rfl ?aP (fun _ hk => hk.elim) ?aF ?aO ?aB ?aS ?aL ?_; (case aP => exact k74_mkM _ _ _ (⟨a1_1, a1_0, 0, wrap64 (-a1_3)⟩ : S74)); (case aB => exact (by repeat (first | (with_reducible first | exact HB.out | apply below_alloc | apply pw_below_drewN | apply below_drew1 | refine below_set ?_ GE163.out) | exact HB.out))); (case aF => exact (fun k_ hk => ⟨(.inr (Nat.le_trans (by first | exact HK.out.1 | exact (show Kept w _ (fun k_ => P0_ k_) from by repeat (first | (with_reducible first | exact HK.out | apply Kept.alloc | apply Kept.drewN | apply Kept.drew | refine Kept.setCell ?_ (.inr GW163.out) _) | exact HK.out)).1) hk)), Kd.freshB (g := gb163) (o := .cells #[.int .i64 a1_0, .int .i64 a1_1, .int .i64 a1_2, .int .i64 a1_3] 74 (0, 0)) (by (with_reducible repeat (first | refine blk_drewN ?_ _ | refine blk_drew ?_ | refine blk_alloc ?_ _)); exact BK163.out) k_ hk⟩)); (case aO => exact (by (with_reducible repeat (first | apply Kd.R_alloc | apply Kd.R_drewN | apply Kd.R_drew)); exact HO166.out)); (case aS => exact (below_size (by repeat (first | (with_reducible first | exact HB.out | apply below_alloc | apply pw_below_drewN | apply below_drew1 | refine below_set ?_ GE163.out) | exact HB.out)))); (case aL => have := LMc4.out; omega); intro v168 w9 ho hb hg hat; rw [← Ny167.out] at ho; have n0_ := Aside0.mk (blk_grown (g := gb163) (o := .cells #[.int .i64 a1_0, .int .i64 a1_1, .int .i64 a1_2, .int .i64 a1_3] 74 (0, 0)) (by (with_reducible repeat (first | refine blk_drewN ?_ _ | refine blk_drew ?_ | refine blk_alloc ?_ _)); exact BK163.out) hg (Kd.R_away HO166.out (fun _ hk => hk.2))); have n1_ := Aside0.mk (hb); have n2_ := Aside0.mk (Kept.of_grown (S := (fun k_ => P0_ k_)) hg (by repeat (first | (with_reducible first | exact HK.out | apply Kept.alloc | apply Kept.drewN | apply Kept.drew | refine Kept.setCell ?_ (.inr GW163.out) _) | exact HK.out)) (fun k_ e_ => (HO166.out.1 k_ e_).1)); have n3_ := Aside0.mk (ho); clear BK163; clear HB; clear HK; clear HO166; have BK163 := n0_; have HB := n1_; have HK := n2_; have HO169 := n3_; clear n0_ n1_ n2_ n3_; clear ho hb hg hat))
      go_ret
      exact ⟨_, by first | rfl | (simp [errW_none, errW_some] <;> rfl) | (simp [*, errW_none, errW_some] <;> rfl), by (with_reducible repeat (first | apply Kd.R_alloc | apply Kd.R_drewN | apply Kd.R_drew)); exact Kd.R_mono HO169.out (fun _ hk => hk.1), by repeat (first | (with_reducible first | exact HB.out | apply below_alloc | apply pw_below_drewN | apply below_drew1 | refine below_set ?_ GE163.out) | exact HB.out), by repeat (first | (with_reducible first | exact HK.out | apply Kept.alloc | apply Kept.drewN | apply Kept.drew | refine Kept.setCell ?_ (.inr GW163.out) _) | exact HK.out)⟩
    · rw [if_neg c4] at H
      exact absurd H (by simp)
  · rw [if_neg c3] at H
    exact absurd H (by simp)
end Go.Proofs.Ytpjobcnfjpbaeaa.PA
