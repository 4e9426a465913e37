/- For all bookings, rooms and numbers the statement RoomsTurned holds: Go's function returns true and changes nothing that existed. -/
import Derived.Test.YtpjobcnfjpbaeaaZh2
set_option linter.unusedSimpArgs false
set_option linter.unusedVariables false

namespace Go.Proofs.Ytpjobcnfjpbaeaa.PA
open Go.RowKit Go.Proofs.YtpjobcnfjpbaeaaW.PrintWords Go.Proofs.YtpjobcnfjpbaeaaW.PrintLast Go.Proofs.YtpjobcnfjpbaeaaW.PrintMore
attribute [local go_sem] max2_int min2_int max_two min_two max_three min_three max_four min_four
set_option linter.unusedVariables false
set_option linter.unusedSimpArgs false
mutual
def turndownref08_shortest.l0 : Nat → List (S74) → Int → Int → Int → List Int → List Int → Int → Option (Int × (List (S74)))
  | 0, _, _, _, _, _, _, _ => none
  | k + 1, x0, x1, x2, x3, x10, x11, x12 => if x12 < x1 then (if 0 ≤ x12 then (if x12 < (x10.length : Int) then (if x12 < (x11.length : Int) then (turndownref08_shortest.l0 k x0 x1 x2 x3 (x10.set (x12 : Int).toNat 1152921504606846976) (x11.set (x12 : Int).toNat (-1)) (wrap64 (x12 + 1))) else (none)) else (none)) else (none)) else (if 0 ≤ x2 then (if x2 < (x10.length : Int) then (turndownref08_shortest.l1 k x0 x2 x3 (x10.set (x2 : Int).toNat 0) x11 true) else (none)) else (none))
def turndownref08_shortest.l1 : Nat → List (S74) → Int → Int → List Int → List Int → Bool → Option (Int × (List (S74)))
  | 0, _, _, _, _, _, _ => none
  | k + 1, x0, x2, x3, x10, x11, x13 => if x13 = true then (turndownref08_shortest.l2 k x0 x2 x3 x10 x11 false 0) else (if 0 ≤ x3 then (if x3 < (x10.length : Int) then (if (rd x10 x3) ≥ 1152921504606846976 then (some (1152921504606846976, ([] : List (S74)))) else (if ([] : List (S74)).length + x0.length < 4398046511104 then (turndownref08_shortest.l3 k x2 x3 x10 x11 (([] : List (S74)) ++ x0) x3) else (none))) else (none)) else (none))
def turndownref08_shortest.l2 : Nat → List (S74) → Int → Int → List Int → List Int → Bool → Int → Option (Int × (List (S74)))
  | 0, _, _, _, _, _, _, _ => none
  | k + 1, x0, x2, x3, x10, x11, x13, x14 => if x14 < (x0.length : Int) then (if 0 ≤ x14 then (if ((rd_T74 x0 x14).f2) > 0 then (if 0 ≤ ((rd_T74 x0 x14).f0) then (if ((rd_T74 x0 x14).f0) < (x10.length : Int) then (if (rd x10 ((rd_T74 x0 x14).f0)) < 1152921504606846976 then (if 0 ≤ ((rd_T74 x0 x14).f1) then (if ((rd_T74 x0 x14).f1) < (x10.length : Int) then (if (wrap64 ((rd x10 ((rd_T74 x0 x14).f0)) + ((rd_T74 x0 x14).f3))) < (rd x10 ((rd_T74 x0 x14).f1)) then (if ((rd_T74 x0 x14).f1) < (x11.length : Int) then (turndownref08_shortest.l2 k x0 x2 x3 (x10.set (((rd_T74 x0 x14).f1) : Int).toNat (wrap64 ((rd x10 ((rd_T74 x0 x14).f0)) + ((rd_T74 x0 x14).f3)))) (x11.set (((rd_T74 x0 x14).f1) : Int).toNat x14) true (wrap64 (x14 + 1))) else (none)) else (turndownref08_shortest.l2 k x0 x2 x3 x10 x11 x13 (wrap64 (x14 + 1)))) else (none)) else (none)) else (turndownref08_shortest.l2 k x0 x2 x3 x10 x11 x13 (wrap64 (x14 + 1)))) else (none)) else (none)) else (turndownref08_shortest.l2 k x0 x2 x3 x10 x11 x13 (wrap64 (x14 + 1)))) else (none)) else (turndownref08_shortest.l1 k x0 x2 x3 x10 x11 x13)
def turndownref08_shortest.l3 : Nat → Int → Int → List Int → List Int → List (S74) → Int → Option (Int × (List (S74)))
  | 0, _, _, _, _, _, _ => none
  | k + 1, x2, x3, x10, x11, x16, x17 => if x17 = x2 then (if 0 ≤ x3 then (if x3 < (x10.length : Int) then (some (rd x10 x3, x16)) else (none)) else (none)) else (if 0 ≤ x17 then (if x17 < (x11.length : Int) then (if 0 ≤ (rd x11 x17) then (if (rd x11 x17) < (x16.length : Int) then ((some (x16.set ((rd x11 x17) : Int).toNat (⟨(rd_T74 x16 (rd x11 x17)).f0, (rd_T74 x16 (rd x11 x17)).f1, wrap64 (((rd_T74 x16 (rd x11 x17)).f2) - 1), (rd_T74 x16 (rd x11 x17)).f3⟩ : S74) : List (S74))).bind fun y187 => (if 0 ≤ (wrap64 ((wrap64 ((rd x11 x17) + 1)) - (wrap64 (2 * (Int.tmod (rd x11 x17) 2))))) then (if (wrap64 ((wrap64 ((rd x11 x17) + 1)) - (wrap64 (2 * (Int.tmod (rd x11 x17) 2))))) < (x16.length : Int) then ((some (y187.set ((wrap64 ((wrap64 ((rd x11 x17) + 1)) - (wrap64 (2 * (Int.tmod (rd x11 x17) 2))))) : Int).toNat (⟨(rd_T74 y187 (wrap64 ((wrap64 ((rd x11 x17) + 1)) - (wrap64 (2 * (Int.tmod (rd x11 x17) 2)))))).f0, (rd_T74 y187 (wrap64 ((wrap64 ((rd x11 x17) + 1)) - (wrap64 (2 * (Int.tmod (rd x11 x17) 2)))))).f1, wrap64 (((rd_T74 y187 (wrap64 ((wrap64 ((rd x11 x17) + 1)) - (wrap64 (2 * (Int.tmod (rd x11 x17) 2)))))).f2) + 1), (rd_T74 y187 (wrap64 ((wrap64 ((rd x11 x17) + 1)) - (wrap64 (2 * (Int.tmod (rd x11 x17) 2)))))).f3⟩ : S74) : List (S74))).bind fun y189 => (turndownref08_shortest.l3 k x2 x3 x10 x11 y189 ((rd_T74 y189 (rd x11 x17)).f0))) else (none)) else (none))) else (none)) else (none)) else (none)) else (none))
end
def turndownref08_shortest.f (k : Nat) (l0 : List (S74)) (a1 : Int) (a2 : Int) (a3 : Int) : Option (Int × (List (S74))) := if 0 ≤ a1 then (if (a1 : Int).toNat ≤ 35184372088832 then (turndownref08_shortest.l0 k l0 a1 a2 a3 (List.replicate (a1 : Int).toNat 0) (List.replicate (a1 : Int).toNat 0) 0) else (none)) else (none)
theorem turndownref08_shortest.mono_l : ∀ k, (∀ y0 y1 y2 y3 y4 y5 y6, LeO (turndownref08_shortest.l0 k y0 y1 y2 y3 y4 y5 y6) (turndownref08_shortest.l0 (k + 1) y0 y1 y2 y3 y4 y5 y6)) ∧ (∀ y0 y1 y2 y3 y4 y5, LeO (turndownref08_shortest.l1 k y0 y1 y2 y3 y4 y5) (turndownref08_shortest.l1 (k + 1) y0 y1 y2 y3 y4 y5)) ∧ (∀ y0 y1 y2 y3 y4 y5 y6, LeO (turndownref08_shortest.l2 k y0 y1 y2 y3 y4 y5 y6) (turndownref08_shortest.l2 (k + 1) y0 y1 y2 y3 y4 y5 y6)) ∧ (∀ y0 y1 y2 y3 y4 y5, LeO (turndownref08_shortest.l3 k y0 y1 y2 y3 y4 y5) (turndownref08_shortest.l3 (k + 1) y0 y1 y2 y3 y4 y5))
  | 0 => ⟨fun _ _ _ _ _ _ _ r h => by simp [turndownref08_shortest.l0] at h, fun _ _ _ _ _ _ r h => by simp [turndownref08_shortest.l1] at h, fun _ _ _ _ _ _ _ r h => by simp [turndownref08_shortest.l2] at h, fun _ _ _ _ _ _ r h => by simp [turndownref08_shortest.l3] at h⟩
  | k + 1 => by
    obtain ⟨ih0, ih1, ih2, ih3⟩ := turndownref08_shortest.mono_l k
    refine ⟨?_, ?_, ?_, ?_⟩
    · intro y0 y1 y2 y3 y4 y5 y6
      unfold turndownref08_shortest.l0
      repeat' first
      | (with_reducible exact ih0 _ _ _ _ _ _ _)
      | (with_reducible exact ih1 _ _ _ _ _ _)
      | (with_reducible exact ih2 _ _ _ _ _ _ _)
      | (with_reducible exact ih3 _ _ _ _ _ _)
      | (with_reducible exact LeO.refl _)
      | (with_reducible exact LeO.none _)
      | (with_reducible refine LeO.ite ?_ ?_)
      | (with_reducible refine LeO.bind ?_ (fun _ => ?_))
      | exact ih0 _ _ _ _ _ _ _
      | exact ih1 _ _ _ _ _ _
      | exact ih2 _ _ _ _ _ _ _
      | exact ih3 _ _ _ _ _ _
      | exact LeO.none _
      | refine LeO.ite ?_ ?_
      | refine LeO.bind ?_ (fun _ => ?_)
    · intro y0 y1 y2 y3 y4 y5
      unfold turndownref08_shortest.l1
      repeat' first
      | (with_reducible exact ih0 _ _ _ _ _ _ _)
      | (with_reducible exact ih1 _ _ _ _ _ _)
      | (with_reducible exact ih2 _ _ _ _ _ _ _)
      | (with_reducible exact ih3 _ _ _ _ _ _)
      | (with_reducible exact LeO.refl _)
      | (with_reducible exact LeO.none _)
      | (with_reducible refine LeO.ite ?_ ?_)
      | (with_reducible refine LeO.bind ?_ (fun _ => ?_))
      | exact ih0 _ _ _ _ _ _ _
      | exact ih1 _ _ _ _ _ _
      | exact ih2 _ _ _ _ _ _ _
      | exact ih3 _ _ _ _ _ _
      | exact LeO.none _
      | refine LeO.ite ?_ ?_
      | refine LeO.bind ?_ (fun _ => ?_)
    · intro y0 y1 y2 y3 y4 y5 y6
      unfold turndownref08_shortest.l2
      repeat' first
      | (with_reducible exact ih0 _ _ _ _ _ _ _)
      | (with_reducible exact ih1 _ _ _ _ _ _)
      | (with_reducible exact ih2 _ _ _ _ _ _ _)
      | (with_reducible exact ih3 _ _ _ _ _ _)
      | (with_reducible exact LeO.refl _)
      | (with_reducible exact LeO.none _)
      | (with_reducible refine LeO.ite ?_ ?_)
      | (with_reducible refine LeO.bind ?_ (fun _ => ?_))
      | exact ih0 _ _ _ _ _ _ _
      | exact ih1 _ _ _ _ _ _
      | exact ih2 _ _ _ _ _ _ _
      | exact ih3 _ _ _ _ _ _
      | exact LeO.none _
      | refine LeO.ite ?_ ?_
      | refine LeO.bind ?_ (fun _ => ?_)
    · intro y0 y1 y2 y3 y4 y5
      unfold turndownref08_shortest.l3
      repeat' first
      | (with_reducible exact ih0 _ _ _ _ _ _ _)
      | (with_reducible exact ih1 _ _ _ _ _ _)
      | (with_reducible exact ih2 _ _ _ _ _ _ _)
      | (with_reducible exact ih3 _ _ _ _ _ _)
      | (with_reducible exact LeO.refl _)
      | (with_reducible exact LeO.none _)
      | (with_reducible refine LeO.ite ?_ ?_)
      | (with_reducible refine LeO.bind ?_ (fun _ => ?_))
      | exact ih0 _ _ _ _ _ _ _
      | exact ih1 _ _ _ _ _ _
      | exact ih2 _ _ _ _ _ _ _
      | exact ih3 _ _ _ _ _ _
      | exact LeO.none _
      | refine LeO.ite ?_ ?_
      | refine LeO.bind ?_ (fun _ => ?_)
theorem turndownref08_shortest.mono : ∀ a0 a1 a2 a3 k, LeO (turndownref08_shortest.f k a0 a1 a2 a3) (turndownref08_shortest.f (k + 1) a0 a1 a2 a3) := by
  intro a0 a1 a2 a3 k
  obtain ⟨ih0, ih1, ih2, ih3⟩ := turndownref08_shortest.mono_l k
  unfold turndownref08_shortest.f
  repeat' first
      | (with_reducible exact ih0 _ _ _ _ _ _ _)
      | (with_reducible exact ih1 _ _ _ _ _ _)
      | (with_reducible exact ih2 _ _ _ _ _ _ _)
      | (with_reducible exact ih3 _ _ _ _ _ _)
      | (with_reducible exact LeO.refl _)
      | (with_reducible exact LeO.none _)
      | (with_reducible refine LeO.ite ?_ ?_)
      | (with_reducible refine LeO.bind ?_ (fun _ => ?_))
      | exact ih0 _ _ _ _ _ _ _
      | exact ih1 _ _ _ _ _ _
      | exact ih2 _ _ _ _ _ _ _
      | exact ih3 _ _ _ _ _ _
      | exact LeO.none _
      | refine LeO.ite ?_ ?_
      | refine LeO.bind ?_ (fun _ => ?_)
def turndownref08_shortest.T16 : Bool × List (List Nat × List Nat) := (true, [([], []), ([0], [0]), ([1], [1]), ([2], [2]), ([3], [3]), ([3], [3]), ([5, 3], [3, 5]), ([4, 6, 3], [3, 4, 6]), ([7, 3], [3, 7]), ([8, 3], [3, 8]), ([3, 9], [3, 9]), ([10, 3], [10]), ([11], [11]), ([11], [11]), ([13, 11], [11, 13]), ([12, 14, 11], [11, 12, 14]), ([15, 11], [11, 15]), ([11], [11]), ([17, 11], [11, 17]), ([16, 18, 11], [11, 16, 18]), ([11], [11]), ([11], [11]), ([21, 11], [11, 21]), ([20, 22, 11], [11, 20, 22]), ([23, 11], [11, 23]), ([19, 24, 11], [11, 19, 24]), ([11, 25], [11, 25])])
def turndownref08_shortest.B16 : List Nat := [0, 1, 3, 7, 15, 15, 47, 127, 255, 511, 1023, 2047, 4095, 4095, 12287, 32767, 65535, 4095, 135167, 524287, 4095, 4095, 2101247, 7344127, 15732735, 33554431, 67108863]
theorem turndownref08_shortest.tab16 : rtab .any (opsOf Try.f46 16) = turndownref08_shortest.T16 := by kernel_rfl
theorem turndownref08_shortest.bits16 : waitsOk turndownref08_shortest.T16.2 turndownref08_shortest.B16 = true := by kernel_rfl
def turndownref08_shortest.T17 : Bool × List (List Nat × List Nat) := (true, [([], []), ([], []), ([1], [1]), ([], []), ([], []), ([4], [4]), ([3, 5], [3, 5]), ([6], [6]), ([], []), ([8], [8]), ([7, 9], [7, 9]), ([0, 2, 0, 1, 2, 3, 4, 5, 6, 7, 8, 9, 10], [0, 2]), ([11, 10, 0, 1, 2, 3, 4, 5, 6, 7, 8, 9, 10], [10, 11])])
def turndownref08_shortest.B17 : List Nat := [0, 0, 2, 0, 0, 16, 56, 120, 0, 256, 1016, 2047, 4095]
theorem turndownref08_shortest.tab17 : rtab .any (opsOf Try.f46 17) = turndownref08_shortest.T17 := by kernel_rfl
theorem turndownref08_shortest.bits17 : waitsOk turndownref08_shortest.T17.2 turndownref08_shortest.B17 = true := by kernel_rfl
set_option maxHeartbeats 8000000 in
set_option maxRecDepth 100000 in
theorem turndownref08_shortest.calls (k : Nat) (A0 : Option Addr) (c0 : Nat) (l0 : List (S74)) (a1 : Int) (a2 : Int) (a3 : Int) (r1 : Int) (r2 : List (S74)) (w : World) (hr0 : Kd.C k74 w A0 l0.length l0) (hc0 : l0.length ≤ c0) (h : turndownref08_shortest.f k l0 a1 a2 a3 = some (r1, r2)) :
    Calls Try.prog 46 #[.slice A0 l0.length c0, .int .i64 a1, .int .i64 a2, .int .i64 a3] w fun e w' => ∃ v1_ : Value, e = .returned (.tuple #[.int .i64 r1, v1_]) ∧ Kd.R k74 74 w' w.heap.size (fun _ => True) v1_ r2 ∧ Below w.heap.size w w' := by
  have hu74 := Try.underlying74
  have HR0 := Aside0.mk hr0
  have HC0 := Aside0.mk hc0
  clear hr0 hc0
  have HB := Aside0.mk (Below.refl w.heap.size w)
  have H : (if 0 ≤ a1 then (if (a1 : Int).toNat ≤ 35184372088832 then (turndownref08_shortest.l0 k l0 a1 a2 a3 (List.replicate (a1 : Int).toNat 0) (List.replicate (a1 : Int).toNat 0) 0) else (none)) else (none)) = some (r1, r2) := h
  clear h
  by_cases c5 : 0 ≤ a1
  · rw [if_pos c5] at H
    have c5b0 := eq_true c5
    have c5b1 : decide (0 ≤ a1) = true := decide_eq_true c5
    clear c5
    by_cases c6 : (a1 : Int).toNat ≤ 35184372088832
    · rw [if_pos c6] at H
      have c6b0 := eq_true c6
      have c6b1 : decide ((a1 : Int).toNat ≤ 35184372088832) = true := decide_eq_true c6
      clear c6
      obtain ⟨y163, hy163⟩ : ∃ y_ : List Int, y_ = (List.replicate (a1 : Int).toNat 0) := ⟨_, rfl⟩
      replace H : (turndownref08_shortest.l0 k l0 a1 a2 a3 y163 (List.replicate (a1 : Int).toNat 0) 0) = some (r1, r2) := by first | (rw [hy163]; with_reducible exact H) | (have H2_ := (Option.bind_some _ _).symm.trans H; rw [hy163]; with_reducible exact H2_) | (have H2_ := (Option.bind_some _ _).symm.trans H; with_reducible exact H2_) | with_reducible exact H | (rw [hy163]; exact H) | exact H
      have Ny163 := Aside0.mk hy163
      clear hy163
      obtain ⟨y166, hy166⟩ : ∃ y_ : List Int, y_ = (List.replicate (a1 : Int).toNat 0) := ⟨_, rfl⟩
      replace H : (turndownref08_shortest.l0 k l0 a1 a2 a3 y163 y166 0) = some (r1, r2) := by first | (rw [hy166]; with_reducible exact H) | (have H2_ := (Option.bind_some _ _).symm.trans H; rw [hy166]; with_reducible exact H2_) | (have H2_ := (Option.bind_some _ _).symm.trans H; with_reducible exact H2_) | with_reducible exact H | (rw [hy166]; exact H) | exact H
      have Ny166 := Aside0.mk hy166
      clear hy166
      have H' := Aside0.mk H
      clear H
      go_enter Try.func46, Try.ntmps46
      go_wp2_with (first | ((with_reducible refine gate_dst (N := 21) rfl ?_); refine Kd.R_make (Kd.int .i64) _ 3 rfl (N := 21) rfl 23 _ _ rfl a1 rfl rfl Try.underlying23 (.int .i64 0) 8 info3 rfl (by decide) (by omega) 0 (ok := fun _ => True) (okp := fun _ => True) rfl (fun _ hk => hk) trivial (of_decide_eq_true (by first | (with_reducible assumption) | assumption)) (Nat.le_trans (Nat.mul_le_mul_right _ (of_decide_eq_true (by first | (with_reducible assumption) | assumption) : a1.toNat ≤ 35184372088832)) (by omega)) (Below.refl _ _) (Nat.le_refl _) ?_; intro v164 w7 ho8 hb hg_ hnew_; clear hg_ hnew_; (first | rw [← Ny163.out] at ho8 | (simp only [Int.reduceToNat] at ho8; rw [← Ny163.out] at ho8)); have n0_ := Aside0.mk (Kd.R_lower ho8 (below_size (by repeat (first | (with_reducible first | exact HB.out | apply below_alloc | apply pw_below_drewN | apply below_drew1) | exact HB.out)))); have n1_ := Aside0.mk (below_step (by repeat (first | (with_reducible first | exact HB.out | apply below_alloc | apply pw_below_drewN | apply below_drew1) | exact HB.out)) hb); clear HB; have HO165 := n0_; have HB := n1_; clear n0_ n1_; clear hb ho8) | ((with_reducible refine gate_dst (N := 23) rfl ?_); refine Kd.R_make (Kd.int .i64) _ 3 rfl (N := 23) rfl 23 _ _ rfl a1 rfl rfl Try.underlying23 (.int .i64 0) 8 info3 rfl (by decide) (by omega) 0 (ok := fun _ => True) (okp := fun _ => True) rfl (fun _ hk => hk) trivial (of_decide_eq_true (by first | (with_reducible assumption) | assumption)) (Nat.le_trans (Nat.mul_le_mul_right _ (of_decide_eq_true (by first | (with_reducible assumption) | assumption) : a1.toNat ≤ 35184372088832)) (by omega)) (Below.refl _ _) (Nat.le_refl _) ?_; intro v167 w9 ho10 hb hg_ hnew_; clear hg_ hnew_; (first | rw [← Ny166.out] at ho10 | (simp only [Int.reduceToNat] at ho10; rw [← Ny166.out] at ho10)); have n0_ := Aside0.mk (Kd.R_elder' (by (with_reducible repeat (first | apply Kd.R_alloc | apply Kd.R_drewN | apply Kd.R_drew)); exact HO165.out) (Kd.R_base ho10) hb); have n1_ := Aside0.mk (Kd.R_lower (Kd.R_new' ho10 (Kd.R_lt (by (with_reducible repeat (first | apply Kd.R_alloc | apply Kd.R_drewN | apply Kd.R_drew)); exact HO165.out))) (below_size (by repeat (first | (with_reducible first | exact HB.out | apply below_alloc | apply pw_below_drewN | apply below_drew1) | exact HB.out)))); have n2_ := Aside0.mk (below_step (by repeat (first | (with_reducible first | exact HB.out | apply below_alloc | apply pw_below_drewN | apply below_drew1) | exact HB.out)) hb); clear HO165; clear HB; have HO165 := n0_; have HO168 := n1_; have HB := n2_; clear n0_ n1_ n2_; clear hb ho10))
      go_loopg [12] k (fun kq v12 w' => ∃ (x10_1 : List Int) (x11_1 : List Int) (x12_1 : Int), v12 = .int .i64 x12_1 ∧ Aside0 (turndownref08_shortest.l0 kq l0 a1 a2 a3 x10_1 x11_1 x12_1 = some (r1, r2)) ∧ Aside0 (kq ≤ k) ∧ Aside0 (Kd.R (Kd.int .i64) 3 w' w.heap.size (fun k_ => some k_ ≠ (v167 : Value).ownBlock) v164 x10_1) ∧ Aside0 (Kd.R (Kd.int .i64) 3 w' w.heap.size (fun k_ => some k_ ≠ (v164 : Value).ownBlock) v167 x11_1) ∧ Aside0 (Below w.heap.size w w'))
      case atStart => exact ⟨(y163), (y166), (0), (by first | rfl | (simp; done) | (simp [*]; done)), H', ⟨Nat.le_refl _⟩, ⟨by (with_reducible repeat (first | apply Kd.R_alloc | apply Kd.R_drewN | apply Kd.R_drew)); exact Kd.R_mono HO165.out (fun _ hk => hk.2)⟩, ⟨by (with_reducible repeat (first | apply Kd.R_alloc | apply Kd.R_drewN | apply Kd.R_drew)); exact Kd.R_mono HO168.out (fun _ hk => hk.2)⟩, ⟨by repeat (first | (with_reducible first | exact HB.out | apply below_alloc | apply pw_below_drewN | apply below_drew1) | exact HB.out)⟩⟩
      case round =>
        clear H'
        try clear p2
        try clear c4
        try clear c5
        try clear c5b0
        try clear c5b1
        try clear c6
        try clear c6b0
        try clear c6b1
        obtain ⟨x10_1, x11_1, x12_1, rfl, HA, HK1, HO_10, HO_11, HB⟩ := hrel
        cases gk with
        | zero => exact absurd HA.out (by simp [turndownref08_shortest.l0])
        | succ k1 =>
          have H := HA.out
          clear HA
          simp only [turndownref08_shortest.l0] at H
          by_cases c11 : x12_1 < a1
          · rw [if_pos c11] at H
            have c11b0 : decide (x12_1 < a1) = true := decide_eq_true c11
            clear c11
            by_cases c12 : 0 ≤ x12_1
            · rw [if_pos c12] at H
              have c12b0 : decide (0 ≤ x12_1) = true := decide_eq_true c12
              clear c12
              by_cases c13 : x12_1 < (x10_1.length : Int)
              · rw [if_pos c13] at H
                have c13b0 : decide (x12_1 < (x10_1.length : Int)) = true := decide_eq_true c13
                clear c13
                obtain ⟨y169, hy169⟩ : ∃ y_ : List Int, y_ = (x10_1.set (x12_1 : Int).toNat 1152921504606846976) := ⟨_, rfl⟩
                replace H : (if x12_1 < (x11_1.length : Int) then (turndownref08_shortest.l0 k1 l0 a1 a2 a3 y169 (x11_1.set (x12_1 : Int).toNat (-1)) (wrap64 (x12_1 + 1))) else (none)) = some (r1, r2) := by first | (rw [hy169]; with_reducible exact H) | (have H2_ := (Option.bind_some _ _).symm.trans H; rw [hy169]; with_reducible exact H2_) | (have H2_ := (Option.bind_some _ _).symm.trans H; with_reducible exact H2_) | with_reducible exact H | (rw [hy169]; exact H) | exact H
                have Ny169 := Aside0.mk hy169
                clear hy169
                by_cases c15 : x12_1 < (x11_1.length : Int)
                · rw [if_pos c15] at H
                  have c15b0 : decide (x12_1 < (x11_1.length : Int)) = true := decide_eq_true c15
                  clear c15
                  obtain ⟨y170, hy170⟩ : ∃ y_ : List Int, y_ = (x11_1.set (x12_1 : Int).toNat (-1)) := ⟨_, rfl⟩
                  replace H : (turndownref08_shortest.l0 k1 l0 a1 a2 a3 y169 y170 (wrap64 (x12_1 + 1))) = some (r1, r2) := by first | (rw [hy170]; with_reducible exact H) | (have H2_ := (Option.bind_some _ _).symm.trans H; rw [hy170]; with_reducible exact H2_) | (have H2_ := (Option.bind_some _ _).symm.trans H; with_reducible exact H2_) | with_reducible exact H | (rw [hy170]; exact H) | exact H
                  have Ny170 := Aside0.mk hy170
                  clear hy170
                  have H' := Aside0.mk H
                  clear H
                  have p14 : 0 ≤ (x12_1 : Int) := of_decide_eq_true (by first | (with_reducible assumption) | assumption)
                  have q14 : (x12_1 : Int) < ((x10_1.length : Int) : Int) := of_decide_eq_true (by first | (with_reducible assumption) | assumption)
                  obtain ⟨go14, co14, eo14, gb14, gl14, cl14, HG14⟩ := Kd.R_form HO_10.out (by omega)
                  (first | cases eo14 | (injection eo14 with ea_ en_ ec_; (first | subst ea_ | (injection ea_ with ea_; subst ea_)); subst ec_; clear en_))
                  have GB14 := Aside0.mk gb14
                  have GG14 := Aside0.mk HG14
                  clear gb14 gl14 HG14
                  obtain ⟨hx14_0, hf14_0⟩ := Kd.R_celln 0 HO_10.out (x12_1 : Int) p14 q14
                  replace p14 := eq_true p14
                  replace q14 := eq_true q14
                  have HP17 := Kd.R_putg HO_10.out (x12_1 : Int) 1152921504606846976
                  go_wp2_with (first | ((with_reducible refine gate_store (t := 3) (p := 31) rfl ?_); refine store_event (t := 3) (p := 31) (v := ?vo_w18) (w1 := (wr.setCell ⟨go14, (x12_1 : Int).toNat, none⟩ (.int .i64 1152921504606846976))) ?hg ?ho ?hn ?hr ?_; (case ho => rfl); (case hg => rfl); (case hn => rfl); (case hr => first | (go_simp; done) | (go_simp; rfl)); intro w18 hw; have hg : wr.grownBy w18 (some go14) := (by rw [hw]; exact HP17.2); have hp_ : Kd.R (Kd.int .i64) 3 w18 w.heap.size (fun k_ => some k_ ≠ (v167 : Value).ownBlock) (.slice (some ⟨go14, 0, none⟩) x10_1.length co14) y169 := (by rw [hw, Ny169.out]; exact HP17.1); clear HP17; have n0_ := Aside0.mk (hp_); have n1_ := Aside0.mk (Kd.R_after (v := (.slice (some ⟨go14, 0, none⟩) x10_1.length co14)) (v1 := (.slice (some ⟨go14, 0, none⟩) x10_1.length co14)) (ok := (fun _ => True)) (by (with_reducible repeat (first | apply Kd.R_alloc | apply Kd.R_drewN | apply Kd.R_drew)); exact Kd.R_mono HO_11.out (fun _ hk => ⟨trivial, hk⟩)) hg (.inl rfl)); have n2_ := Aside0.mk ((by rw [hw]; exact below_set (HB.out) GB14.out : Below w.heap.size w w18)); clear HO_10; clear HO_11; clear HB; have HO_10 := n0_; have HO_11 := n1_; have HB := n2_; clear n0_ n1_ n2_; clear hg hw hp_; have p16 : 0 ≤ (x12_1 : Int) := of_decide_eq_true (by first | (with_reducible assumption) | assumption); have q16 : (x12_1 : Int) < ((x11_1.length : Int) : Int) := of_decide_eq_true (by first | (with_reducible assumption) | assumption); obtain ⟨go16, co16, eo16, gb16, gl16, cl16, HG16⟩ := Kd.R_form HO_11.out (by omega); (first | cases eo16 | (injection eo16 with ea_ en_ ec_; (first | subst ea_ | (injection ea_ with ea_; subst ea_)); subst ec_; clear en_)); have GB16 := Aside0.mk gb16; have GG16 := Aside0.mk HG16; clear gb16 gl16 HG16; obtain ⟨hx16_0, hf16_0⟩ := Kd.R_celln 0 HO_11.out (x12_1 : Int) p16 q16; replace p16 := eq_true p16; replace q16 := eq_true q16; have n_ := Aside0.mk (Kd.R_mono (ok' := (fun k_ => some k_ ≠ (.slice (some ⟨go14, 0, none⟩) x10_1.length co14 : Value).ownBlock)) HO_11.out (fun k_ hk => hk.2)); clear HO_11; have HO_11 := n_; clear n_; obtain ⟨hy19_, hz19_⟩ := Kd.R_celln 0 HO_11.out (x12_1 : Int) (of_decide_eq_true (by first | (with_reducible assumption) | assumption)) (of_decide_eq_true (by first | (with_reducible assumption) | assumption)); have HP19 := Kd.R_putg HO_11.out (x12_1 : Int) (-1)) | ((with_reducible refine gate_store (t := 3) (p := 34) rfl ?_); refine store_event (t := 3) (p := 34) (v := ?vo_w20) (w1 := (w18.setCell ⟨go16, (x12_1 : Int).toNat, none⟩ (.int .i64 (-1)))) ?hg ?ho ?hn ?hr ?_; (case ho => rfl); (case hg => rfl); (case hn => rfl); (case hr => first | (go_simp; done) | (go_simp; rfl)); intro w20 hw; have hg : w18.grownBy w20 (some go16) := (by rw [hw]; exact HP19.2); have hp_ : Kd.R (Kd.int .i64) 3 w20 w.heap.size (fun k_ => some k_ ≠ (.slice (some ⟨go14, 0, none⟩) x10_1.length co14 : Value).ownBlock) (.slice (some ⟨go16, 0, none⟩) x11_1.length co16) y170 := (by rw [hw, Ny170.out]; exact HP19.1); clear HP19; have n0_ := Aside0.mk (Kd.R_after (v := (.slice (some ⟨go16, 0, none⟩) x11_1.length co16)) (v1 := (.slice (some ⟨go16, 0, none⟩) x11_1.length co16)) (ok := (fun _ => True)) (by (with_reducible repeat (first | apply Kd.R_alloc | apply Kd.R_drewN | apply Kd.R_drew)); exact Kd.R_mono HO_10.out (fun _ hk => ⟨trivial, hk⟩)) hg (.inl rfl)); have n1_ := Aside0.mk (hp_); have n2_ := Aside0.mk ((by rw [hw]; exact below_set (HB.out) GB16.out : Below w.heap.size w w20)); clear HO_10; clear HO_11; clear HB; have HO_10 := n0_; have HO_11 := n1_; have HB := n2_; clear n0_ n1_ n2_; clear hg hw hp_))
                  go_roundg k1
                  case measure => have := HK1.out; omega
                  case rel => exact ⟨(y169), (y170), (wrap64 (x12_1 + 1)), (by first | rfl | (simp; done) | (simp [*]; done)), H', ⟨by have := HK1.out; omega⟩, ⟨by (with_reducible repeat (first | apply Kd.R_alloc | apply Kd.R_drewN | apply Kd.R_drew)); exact Kd.R_mono HO_10.out (fun _ hk => hk.2)⟩, ⟨by (with_reducible repeat (first | apply Kd.R_alloc | apply Kd.R_drewN | apply Kd.R_drew)); exact HO_11.out⟩, ⟨by repeat (first | (with_reducible first | exact HB.out | apply below_alloc | apply pw_below_drewN | apply below_drew1) | exact HB.out)⟩⟩
                · rw [if_neg c15] at H
                  exact absurd H (by simp)
              · rw [if_neg c13] at H
                exact absurd H (by simp)
            · rw [if_neg c12] at H
              exact absurd H (by simp)
          · rw [if_neg c11] at H
            have c11b0 : decide (x12_1 < a1) = false := decide_eq_false c11
            clear c11
            by_cases c21 : 0 ≤ a2
            · rw [if_pos c21] at H
              have c21b0 : decide (0 ≤ a2) = true := decide_eq_true c21
              clear c21
              by_cases c22 : a2 < (x10_1.length : Int)
              · rw [if_pos c22] at H
                have c22b0 : decide (a2 < (x10_1.length : Int)) = true := decide_eq_true c22
                clear c22
                obtain ⟨y171, hy171⟩ : ∃ y_ : List Int, y_ = (x10_1.set (a2 : Int).toNat 0) := ⟨_, rfl⟩
                replace H : (turndownref08_shortest.l1 k1 l0 a2 a3 y171 x11_1 true) = some (r1, r2) := by first | (rw [hy171]; with_reducible exact H) | (have H2_ := (Option.bind_some _ _).symm.trans H; rw [hy171]; with_reducible exact H2_) | (have H2_ := (Option.bind_some _ _).symm.trans H; with_reducible exact H2_) | with_reducible exact H | (rw [hy171]; exact H) | exact H
                have Ny171 := Aside0.mk hy171
                clear hy171
                have H' := Aside0.mk H
                clear H
                have p23 : 0 ≤ (a2 : Int) := of_decide_eq_true (by first | (with_reducible assumption) | assumption)
                have q23 : (a2 : Int) < ((x10_1.length : Int) : Int) := of_decide_eq_true (by first | (with_reducible assumption) | assumption)
                obtain ⟨go23, co23, eo23, gb23, gl23, cl23, HG23⟩ := Kd.R_form HO_10.out (by omega)
                (first | cases eo23 | (injection eo23 with ea_ en_ ec_; (first | subst ea_ | (injection ea_ with ea_; subst ea_)); subst ec_; clear en_))
                have GB23 := Aside0.mk gb23
                have GG23 := Aside0.mk HG23
                clear gb23 gl23 HG23
                obtain ⟨hx23_0, hf23_0⟩ := Kd.R_celln 0 HO_10.out (a2 : Int) p23 q23
                replace p23 := eq_true p23
                replace q23 := eq_true q23
                have HP24 := Kd.R_putg HO_10.out (a2 : Int) 0
                go_wp2_with (first | ((with_reducible refine gate_store (t := 3) (p := 37) rfl ?_); refine store_event (t := 3) (p := 37) (v := ?vo_w25) (w1 := (wr.setCell ⟨go23, (a2 : Int).toNat, none⟩ (.int .i64 0))) ?hg ?ho ?hn ?hr ?_; (case ho => rfl); (case hg => rfl); (case hn => rfl); (case hr => first | (go_simp; done) | (go_simp; rfl)); intro w25 hw; have hg : wr.grownBy w25 (some go23) := (by rw [hw]; exact HP24.2); have hp_ : Kd.R (Kd.int .i64) 3 w25 w.heap.size (fun k_ => some k_ ≠ (v167 : Value).ownBlock) (.slice (some ⟨go23, 0, none⟩) x10_1.length co23) y171 := (by rw [hw, Ny171.out]; exact HP24.1); clear HP24; have n0_ := Aside0.mk (hp_); have n1_ := Aside0.mk (Kd.R_after (v := (.slice (some ⟨go23, 0, none⟩) x10_1.length co23)) (v1 := (.slice (some ⟨go23, 0, none⟩) x10_1.length co23)) (ok := (fun _ => True)) (by (with_reducible repeat (first | apply Kd.R_alloc | apply Kd.R_drewN | apply Kd.R_drew)); exact Kd.R_mono HO_11.out (fun _ hk => ⟨trivial, hk⟩)) hg (.inl rfl)); have n2_ := Aside0.mk ((by rw [hw]; exact below_set (HB.out) GB23.out : Below w.heap.size w w25)); clear HO_10; clear HO_11; clear HB; have HO_10 := n0_; have HO_11 := n1_; have HB := n2_; clear n0_ n1_ n2_; clear hg hw hp_))
                go_loopg [13] k1 (fun kq v13 w' => ∃ (x10_2 : List Int) (x11_2 : List Int) (x13_2 : Bool), v13 = .bool x13_2 ∧ Aside0 (turndownref08_shortest.l1 kq l0 a2 a3 x10_2 x11_2 x13_2 = some (r1, r2)) ∧ Aside0 (kq ≤ k1) ∧ Aside0 (Kd.R (Kd.int .i64) 3 w' w.heap.size (fun k_ => some k_ ≠ (v167 : Value).ownBlock) (.slice (some ⟨go23, 0, none⟩) x10_1.length co23) x10_2) ∧ Aside0 (Kd.R (Kd.int .i64) 3 w' w.heap.size (fun k_ => some k_ ≠ ((.slice (some ⟨go23, 0, none⟩) x10_1.length co23) : Value).ownBlock) v167 x11_2) ∧ Aside0 (Below w.heap.size w w'))
                case atStart => exact ⟨(y171), (x11_1), (true), (by first | rfl | (simp; done) | (simp [*]; done)), H', ⟨Nat.le_refl _⟩, ⟨by (with_reducible repeat (first | apply Kd.R_alloc | apply Kd.R_drewN | apply Kd.R_drew)); exact HO_10.out⟩, ⟨by (with_reducible repeat (first | apply Kd.R_alloc | apply Kd.R_drewN | apply Kd.R_drew)); exact Kd.R_mono HO_11.out (fun _ hk => hk.2)⟩, ⟨by repeat (first | (with_reducible first | exact HB.out | apply below_alloc | apply pw_below_drewN | apply below_drew1) | exact HB.out)⟩⟩
                case round =>
                  clear H'
                  try clear c1
                  try clear p1
                  try clear q1
                  try clear hx1
                  try clear c2
                  try clear p2
                  try clear q2
                  try clear hx2
                  try clear c4
                  try clear c5
                  try clear c5b0
                  try clear c5b1
                  try clear c6
                  try clear c6b0
                  try clear c6b1
                  try clear p6
                  try clear c11
                  try clear c11b0
                  try clear c12
                  try clear c12b0
                  try clear c13
                  try clear c13b0
                  try clear p14
                  try clear q14
                  try clear hx14
                  try clear hf14
                  try clear c15
                  try clear c15b0
                  try clear p16
                  try clear q16
                  try clear hx16
                  try clear hf16
                  try clear c21
                  try clear c21b0
                  try clear c22
                  try clear c22b0
                  try clear p23
                  try clear q23
                  try clear hx23
                  try clear hf23
                  try clear hx14_0
                  try clear hx16_0
                  try clear hx23_0
                  try clear p14
                  try clear p16
                  try clear p2
                  try clear p23
                  try clear q14
                  try clear q16
                  try clear q23
                  obtain ⟨x10_2, x11_2, x13_2, rfl, HA, HK2, HO_10, HO_11, HB⟩ := hrel
                  have hl10_2 := (Kd.R_reads' HO_10.out).1
                  rw [hl10_2] at HO_10
                  (try simp only [hl10_2])
                  (try simp only [hl10_2] at HO_11)
                  cases gk with
                  | zero => exact absurd HA.out (by simp [turndownref08_shortest.l1])
                  | succ k2 =>
                    have H := HA.out
                    clear HA
                    simp only [turndownref08_shortest.l1] at H
                    by_cases c26 : x13_2 = true
                    · subst c26
                      have H1 : (turndownref08_shortest.l2 k2 l0 a2 a3 x10_2 x11_2 false 0) = some (r1, r2) := by rw [if_pos rfl] at H; exact H
                      clear H
                      have H := H1
                      clear H1
                      have H' := Aside0.mk H
                      clear H
                      go_wp2
                      go_loopg [13, 14] k2 (fun kq v13 v14 w' => ∃ (x10_3 : List Int) (x11_3 : List Int) (x13_3 : Bool) (x14_3 : Int), v13 = .bool x13_3 ∧ v14 = .int .i64 x14_3 ∧ Aside0 (turndownref08_shortest.l2 kq l0 a2 a3 x10_3 x11_3 x13_3 x14_3 = some (r1, r2)) ∧ Aside0 (kq ≤ k2) ∧ Aside0 (Kd.R (Kd.int .i64) 3 w' w.heap.size (fun k_ => some k_ ≠ (v167 : Value).ownBlock) (.slice (some ⟨go23, 0, none⟩) x10_2.length co23) x10_3) ∧ Aside0 (Kd.R (Kd.int .i64) 3 w' w.heap.size (fun k_ => some k_ ≠ ((.slice (some ⟨go23, 0, none⟩) x10_2.length co23) : Value).ownBlock) v167 x11_3) ∧ Aside0 (Below w.heap.size w w'))
                      case atStart => exact ⟨(x10_2), (x11_2), (false), (0), (by first | rfl | (simp; done) | (simp [*]; done)), (by first | rfl | (simp; done) | (simp [*]; done)), H', ⟨Nat.le_refl _⟩, ⟨by (try simp only [hl10_2]); (with_reducible repeat (first | apply Kd.R_alloc | apply Kd.R_drewN | apply Kd.R_drew)); exact HO_10.out⟩, ⟨by (try simp only [hl10_2]); (with_reducible repeat (first | apply Kd.R_alloc | apply Kd.R_drewN | apply Kd.R_drew)); exact HO_11.out⟩, ⟨by repeat (first | (with_reducible first | exact HB.out | apply below_alloc | apply pw_below_drewN | apply below_drew1) | exact HB.out)⟩⟩
                      case round =>
                        clear H'
                        try clear c1
                        try clear p1
                        try clear q1
                        try clear hx1
                        try clear c2
                        try clear p2
                        try clear q2
                        try clear hx2
                        try clear c4
                        try clear c5
                        try clear c5b0
                        try clear c5b1
                        try clear c6
                        try clear c6b0
                        try clear c6b1
                        try clear p6
                        try clear c11
                        try clear c11b0
                        try clear c12
                        try clear c12b0
                        try clear c13
                        try clear c13b0
                        try clear p14
                        try clear q14
                        try clear hx14
                        try clear hf14
                        try clear c15
                        try clear c15b0
                        try clear p16
                        try clear q16
                        try clear hx16
                        try clear hf16
                        try clear c21
                        try clear c21b0
                        try clear c22
                        try clear c22b0
                        try clear p23
                        try clear q23
                        try clear hx23
                        try clear hf23
                        try clear c26
                        try clear hx14_0
                        try clear hx16_0
                        try clear hx23_0
                        try clear p1
                        try clear p14
                        try clear p16
                        try clear p2
                        try clear p23
                        try clear p6
                        try clear q1
                        try clear q14
                        try clear q16
                        try clear q2
                        try clear q23
                        obtain ⟨x10_3, x11_3, x13_3, x14_3, rfl, rfl, HA, HK3, HO_10, HO_11, HB⟩ := hrel
                        have hl10_3 := (Kd.R_reads' HO_10.out).1
                        rw [hl10_3] at HO_10
                        (try simp only [hl10_3])
                        (try simp only [hl10_3] at HO_11)
                        cases gk with
                        | zero => exact absurd HA.out (by simp [turndownref08_shortest.l2])
                        | succ k3 =>
                          have H := HA.out
                          clear HA
                          simp only [turndownref08_shortest.l2] at H
                          by_cases c27 : x14_3 < (l0.length : Int)
                          · rw [if_pos c27] at H
                            have c27b0 : decide (x14_3 < (l0.length : Int)) = true := decide_eq_true c27
                            clear c27
                            by_cases c28 : 0 ≤ x14_3
                            · rw [if_pos c28] at H
                              have c28b0 : decide (0 ≤ x14_3) = true := decide_eq_true c28
                              clear c28
                              by_cases c29 : ((rd_T74 l0 x14_3).f2) > 0
                              · rw [if_pos c29] at H
                                have c29b0 : decide (0 < ((rd_T74 l0 x14_3).f2)) = true := decide_eq_true c29
                                clear c29
                                by_cases c30 : 0 ≤ ((rd_T74 l0 x14_3).f0)
                                · rw [if_pos c30] at H
                                  have c30b0 : decide (0 ≤ ((rd_T74 l0 x14_3).f0)) = true := decide_eq_true c30
                                  clear c30
                                  by_cases c31 : ((rd_T74 l0 x14_3).f0) < (x10_3.length : Int)
                                  · rw [if_pos c31] at H
                                    have c31b0 : decide (((rd_T74 l0 x14_3).f0) < (x10_3.length : Int)) = true := decide_eq_true c31
                                    clear c31
                                    by_cases c32 : (rd x10_3 ((rd_T74 l0 x14_3).f0)) < 1152921504606846976
                                    · rw [if_pos c32] at H
                                      have c32b0 : decide ((rd x10_3 ((rd_T74 l0 x14_3).f0)) < 1152921504606846976) = true := decide_eq_true c32
                                      clear c32
                                      by_cases c33 : 0 ≤ ((rd_T74 l0 x14_3).f1)
                                      · rw [if_pos c33] at H
                                        have c33b0 : decide (0 ≤ ((rd_T74 l0 x14_3).f1)) = true := decide_eq_true c33
                                        clear c33
                                        by_cases c34 : ((rd_T74 l0 x14_3).f1) < (x10_3.length : Int)
                                        · rw [if_pos c34] at H
                                          have c34b0 : decide (((rd_T74 l0 x14_3).f1) < (x10_3.length : Int)) = true := decide_eq_true c34
                                          clear c34
                                          by_cases c35 : (wrap64 ((rd x10_3 ((rd_T74 l0 x14_3).f0)) + ((rd_T74 l0 x14_3).f3))) < (rd x10_3 ((rd_T74 l0 x14_3).f1))
                                          · rw [if_pos c35] at H
                                            have c35b0 : decide ((wrap64 ((rd x10_3 ((rd_T74 l0 x14_3).f0)) + ((rd_T74 l0 x14_3).f3))) < (rd x10_3 ((rd_T74 l0 x14_3).f1))) = true := decide_eq_true c35
                                            clear c35
                                            obtain ⟨y178, hy178⟩ : ∃ y_ : List Int, y_ = (x10_3.set (((rd_T74 l0 x14_3).f1) : Int).toNat (wrap64 ((rd x10_3 ((rd_T74 l0 x14_3).f0)) + ((rd_T74 l0 x14_3).f3)))) := ⟨_, rfl⟩
                                            replace H : (if ((rd_T74 l0 x14_3).f1) < (x11_3.length : Int) then (turndownref08_shortest.l2 k3 l0 a2 a3 y178 (x11_3.set (((rd_T74 l0 x14_3).f1) : Int).toNat x14_3) true (wrap64 (x14_3 + 1))) else (none)) = some (r1, r2) := by first | (rw [hy178]; with_reducible exact H) | (have H2_ := (Option.bind_some _ _).symm.trans H; rw [hy178]; with_reducible exact H2_) | (have H2_ := (Option.bind_some _ _).symm.trans H; with_reducible exact H2_) | with_reducible exact H | (rw [hy178]; exact H) | exact H
                                            have Ny178 := Aside0.mk hy178
                                            clear hy178
                                            by_cases c37 : ((rd_T74 l0 x14_3).f1) < (x11_3.length : Int)
                                            · rw [if_pos c37] at H
                                              have c37b0 : decide (((rd_T74 l0 x14_3).f1) < (x11_3.length : Int)) = true := decide_eq_true c37
                                              clear c37
                                              obtain ⟨y179, hy179⟩ : ∃ y_ : List Int, y_ = (x11_3.set (((rd_T74 l0 x14_3).f1) : Int).toNat x14_3) := ⟨_, rfl⟩
                                              replace H : (turndownref08_shortest.l2 k3 l0 a2 a3 y178 y179 true (wrap64 (x14_3 + 1))) = some (r1, r2) := by first | (rw [hy179]; with_reducible exact H) | (have H2_ := (Option.bind_some _ _).symm.trans H; rw [hy179]; with_reducible exact H2_) | (have H2_ := (Option.bind_some _ _).symm.trans H; with_reducible exact H2_) | with_reducible exact H | (rw [hy179]; exact H) | exact H
                                              have Ny179 := Aside0.mk hy179
                                              clear hy179
                                              have H' := Aside0.mk H
                                              clear H
                                              have p172 : 0 ≤ (x14_3 : Int) := of_decide_eq_true (by first | (with_reducible assumption) | assumption)
                                              have q172 : x14_3 < (l0.length : Int) := of_decide_eq_true (by first | (with_reducible assumption) | assumption)
                                              obtain ⟨ad172, e172, hx172_0, hx172_1, hx172_2, hx172_3⟩ := at_T74 HR0.out x14_3 p172 q172
                                              cases e172
                                              replace hx172_0 := (HB.out.cell (World.block_lt_of_cell? w _ hx172_0)).trans hx172_0
                                              replace hx172_1 := (HB.out.cell (World.block_lt_of_cell? w _ hx172_1)).trans hx172_1
                                              replace hx172_2 := (HB.out.cell (World.block_lt_of_cell? w _ hx172_2)).trans hx172_2
                                              replace hx172_3 := (HB.out.cell (World.block_lt_of_cell? w _ hx172_3)).trans hx172_3
                                              replace p172 := eq_true p172
                                              replace q172 := eq_true q172
                                              try go_wp2_with (first | ((with_reducible refine gate_dst (N := 15) rfl ?_); refine box_event ?hg (N := 15) ?hd (cs := #[.int .i64 0, .int .i64 0, .int .i64 0, .int .i64 0]) (t := 74) ?hr ?_; (case hd => rfl); (case hg => rfl); (case hr => first | (go_simp; done) | (go_simp; rfl)); intro gb173 hg w39 hbox hb; have n0_ := Aside0.mk (Kd.R_below (by (with_reducible repeat (first | apply Kd.R_alloc | apply Kd.R_drewN | apply Kd.R_drew)); exact HO_10.out) hb); have n1_ := Aside0.mk (Kd.R_below (by (with_reducible repeat (first | apply Kd.R_alloc | apply Kd.R_drewN | apply Kd.R_drew)); exact HO_11.out) hb); have n2_ := Aside0.mk (below_step (by repeat (first | (with_reducible first | exact HB.out | apply below_alloc | apply pw_below_drewN | apply below_drew1) | exact HB.out)) hb); have n3_ := Aside0.mk (hbox); have n4_ := Aside0.mk ((by rw [hg]; exact (below_size (by repeat (first | (with_reducible first | exact HB.out | apply below_alloc | apply pw_below_drewN | apply below_drew1) | exact HB.out))) : w.heap.size ≤ gb173)); have n5_ := Aside0.mk ((by rw [hg]; exact (below_size (by repeat (first | (with_reducible first | exact HB.out | apply below_alloc | apply pw_below_drewN | apply below_drew1) | exact HB.out))) : w.heap.size ≤ gb173)); clear HO_10; clear HO_11; clear HB; have HO_10 := n0_; have HO_11 := n1_; have HB := n2_; have BK173 := n3_; have GW173 := n4_; have GE173 := n5_; clear n0_ n1_ n2_ n3_ n4_ n5_; clear hb hbox hg; have hcz40_0 : w39.cell? ⟨gb173, 0, none⟩ = some (.int .i64 0) := (blk_cell BK173.out 0).trans rfl; have hcz40_1 : w39.cell? ⟨gb173, 1, none⟩ = some (.int .i64 0) := (blk_cell BK173.out 1).trans rfl; have hcz40_2 : w39.cell? ⟨gb173, 2, none⟩ = some (.int .i64 0) := (blk_cell BK173.out 2).trans rfl; have hcz40_3 : w39.cell? ⟨gb173, 3, none⟩ = some (.int .i64 0) := (blk_cell BK173.out 3).trans rfl; have hfz40_0 := blk_frozen BK173.out 0; have hfz40_1 := blk_frozen BK173.out 1; have hfz40_2 := blk_frozen BK173.out 2; have hfz40_3 := blk_frozen BK173.out 3))
                                              have n0_ : Aside0 (Kd.R (Kd.int .i64) 3 ((((w39.setCell ⟨gb173, 0, none⟩ (.int .i64 ((rd_T74 l0 x14_3).f0))).setCell ⟨gb173, 1, none⟩ (.int .i64 ((rd_T74 l0 x14_3).f1))).setCell ⟨gb173, 2, none⟩ (.int .i64 ((rd_T74 l0 x14_3).f2))).setCell ⟨gb173, 3, none⟩ (.int .i64 ((rd_T74 l0 x14_3).f3))) w.heap.size (fun k_ => some k_ ≠ (v167 : Value).ownBlock) (.slice (some ⟨go23, 0, none⟩) x10_3.length co23) x10_3) := ⟨by (with_reducible repeat (first | apply Kd.R_alloc | apply Kd.R_drewN | apply Kd.R_drew)); exact Kd.R_mono (Kd.R_far (p := ⟨gb173, 3, none⟩) (Kd.R_far (p := ⟨gb173, 2, none⟩) (Kd.R_far (p := ⟨gb173, 1, none⟩) (Kd.R_far (p := ⟨gb173, 0, none⟩) (Kd.R_types HO_10.out BK173.out (by decide)) (fun _ hk => hk.2) (.int .i64 ((rd_T74 l0 x14_3).f0))) (fun _ hk => hk.2) (.int .i64 ((rd_T74 l0 x14_3).f1))) (fun _ hk => hk.2) (.int .i64 ((rd_T74 l0 x14_3).f2))) (fun _ hk => hk.2) (.int .i64 ((rd_T74 l0 x14_3).f3))) (fun _ hk => hk.1)⟩
                                              have n1_ : Aside0 (Kd.R (Kd.int .i64) 3 ((((w39.setCell ⟨gb173, 0, none⟩ (.int .i64 ((rd_T74 l0 x14_3).f0))).setCell ⟨gb173, 1, none⟩ (.int .i64 ((rd_T74 l0 x14_3).f1))).setCell ⟨gb173, 2, none⟩ (.int .i64 ((rd_T74 l0 x14_3).f2))).setCell ⟨gb173, 3, none⟩ (.int .i64 ((rd_T74 l0 x14_3).f3))) w.heap.size (fun k_ => some k_ ≠ (.slice (some ⟨go23, 0, none⟩) x10_3.length co23 : Value).ownBlock) v167 x11_3) := ⟨by (with_reducible repeat (first | apply Kd.R_alloc | apply Kd.R_drewN | apply Kd.R_drew)); exact Kd.R_mono (Kd.R_far (p := ⟨gb173, 3, none⟩) (Kd.R_far (p := ⟨gb173, 2, none⟩) (Kd.R_far (p := ⟨gb173, 1, none⟩) (Kd.R_far (p := ⟨gb173, 0, none⟩) (Kd.R_types HO_11.out BK173.out (by decide)) (fun _ hk => hk.2) (.int .i64 ((rd_T74 l0 x14_3).f0))) (fun _ hk => hk.2) (.int .i64 ((rd_T74 l0 x14_3).f1))) (fun _ hk => hk.2) (.int .i64 ((rd_T74 l0 x14_3).f2))) (fun _ hk => hk.2) (.int .i64 ((rd_T74 l0 x14_3).f3))) (fun _ hk => hk.1)⟩
                                              have n2_ : Aside0 (((((w39.setCell ⟨gb173, 0, none⟩ (.int .i64 ((rd_T74 l0 x14_3).f0))).setCell ⟨gb173, 1, none⟩ (.int .i64 ((rd_T74 l0 x14_3).f1))).setCell ⟨gb173, 2, none⟩ (.int .i64 ((rd_T74 l0 x14_3).f2))).setCell ⟨gb173, 3, none⟩ (.int .i64 ((rd_T74 l0 x14_3).f3))).heap[gb173]? = some (.cells #[.int .i64 ((rd_T74 l0 x14_3).f0), .int .i64 ((rd_T74 l0 x14_3).f1), .int .i64 ((rd_T74 l0 x14_3).f2), .int .i64 ((rd_T74 l0 x14_3).f3)] 74 (0, 0))) := ⟨by (with_reducible repeat (first | refine blk_drewN ?_ _ | refine blk_drew ?_ | refine blk_alloc ?_ _)); refine blk_put (cs := #[.int .i64 ((rd_T74 l0 x14_3).f0), .int .i64 ((rd_T74 l0 x14_3).f1), .int .i64 ((rd_T74 l0 x14_3).f2), .int .i64 0]) ?_ 3 _ rfl; (with_reducible repeat (first | refine blk_drewN ?_ _ | refine blk_drew ?_ | refine blk_alloc ?_ _)); refine blk_put (cs := #[.int .i64 ((rd_T74 l0 x14_3).f0), .int .i64 ((rd_T74 l0 x14_3).f1), .int .i64 0, .int .i64 0]) ?_ 2 _ rfl; (with_reducible repeat (first | refine blk_drewN ?_ _ | refine blk_drew ?_ | refine blk_alloc ?_ _)); refine blk_put (cs := #[.int .i64 ((rd_T74 l0 x14_3).f0), .int .i64 0, .int .i64 0, .int .i64 0]) ?_ 1 _ rfl; (with_reducible repeat (first | refine blk_drewN ?_ _ | refine blk_drew ?_ | refine blk_alloc ?_ _)); refine blk_put (cs := #[.int .i64 0, .int .i64 0, .int .i64 0, .int .i64 0]) ?_ 0 _ rfl; (with_reducible repeat (first | refine blk_drewN ?_ _ | refine blk_drew ?_ | refine blk_alloc ?_ _)); exact BK173.out⟩
                                              have n3_ : Aside0 (Below w.heap.size w ((((w39.setCell ⟨gb173, 0, none⟩ (.int .i64 ((rd_T74 l0 x14_3).f0))).setCell ⟨gb173, 1, none⟩ (.int .i64 ((rd_T74 l0 x14_3).f1))).setCell ⟨gb173, 2, none⟩ (.int .i64 ((rd_T74 l0 x14_3).f2))).setCell ⟨gb173, 3, none⟩ (.int .i64 ((rd_T74 l0 x14_3).f3)))) := ⟨by repeat (first | (with_reducible first | exact HB.out | apply below_alloc | apply pw_below_drewN | apply below_drew1 | refine below_set ?_ GE173.out) | exact HB.out)⟩
                                              (try clear HO_10)
                                              (try clear HO_11)
                                              (try clear BK173)
                                              (try clear HB)
                                              generalize ((((w39.setCell ⟨gb173, 0, none⟩ (.int .i64 ((rd_T74 l0 x14_3).f0))).setCell ⟨gb173, 1, none⟩ (.int .i64 ((rd_T74 l0 x14_3).f1))).setCell ⟨gb173, 2, none⟩ (.int .i64 ((rd_T74 l0 x14_3).f2))).setCell ⟨gb173, 3, none⟩ (.int .i64 ((rd_T74 l0 x14_3).f3))) = w41 at n0_ n1_ n2_ n3_ ⊢
                                              have HO_10 := n0_
                                              have HO_11 := n1_
                                              have BK173 := n2_
                                              have HB := n3_
                                              clear n0_ n1_ n2_ n3_
                                              have n0_ := Aside0.mk (Kd.R_drew HO_10.out)
                                              have n1_ := Aside0.mk (Kd.R_drew HO_11.out)
                                              have n2_ := Aside0.mk (blk_drew BK173.out)
                                              have n3_ := Aside0.mk (below_drew1 HB.out)
                                              clear HO_10
                                              clear HO_11
                                              clear BK173
                                              clear HB
                                              have HO_10 := n0_
                                              have HO_11 := n1_
                                              have BK173 := n2_
                                              have HB := n3_
                                              clear n0_ n1_ n2_ n3_
                                              have p174 : 0 ≤ (((rd_T74 l0 x14_3).f0) : Int) := of_decide_eq_true (by first | (with_reducible assumption) | assumption)
                                              have q174 : ((rd_T74 l0 x14_3).f0) < (x10_3.length : Int) := of_decide_eq_true (by first | (with_reducible assumption) | assumption)
                                              obtain ⟨ad174, e174, hx174_0⟩ := Kd.at_int (Kd.R_reads' HO_10.out).2.2 ((rd_T74 l0 x14_3).f0) p174 q174
                                              obtain rfl : (⟨go23, 0, none⟩ : Addr) = ad174 := (by injection e174)
                                              (first | simp only [add_plain] at hx174_0 | simp only [add_at] at hx174_0 | simp only [Addr.add, Nat.zero_add] at hx174_0 | skip)
                                              replace p174 := eq_true p174
                                              replace q174 := eq_true q174
                                              have p175 : 0 ≤ (((rd_T74 l0 x14_3).f0) : Int) := of_decide_eq_true (by first | (with_reducible assumption) | assumption)
                                              have q175 : ((rd_T74 l0 x14_3).f0) < (x10_3.length : Int) := of_decide_eq_true (by first | (with_reducible assumption) | assumption)
                                              obtain ⟨ad175, e175, hx175_0⟩ := Kd.at_int (Kd.R_reads' HO_10.out).2.2 ((rd_T74 l0 x14_3).f0) p175 q175
                                              obtain rfl : (⟨go23, 0, none⟩ : Addr) = ad175 := (by injection e175)
                                              (first | simp only [add_plain] at hx175_0 | simp only [add_at] at hx175_0 | simp only [Addr.add, Nat.zero_add] at hx175_0 | skip)
                                              replace p175 := eq_true p175
                                              replace q175 := eq_true q175
                                              have p176 : 0 ≤ (((rd_T74 l0 x14_3).f1) : Int) := of_decide_eq_true (by first | (with_reducible assumption) | assumption)
                                              have q176 : ((rd_T74 l0 x14_3).f1) < (x10_3.length : Int) := of_decide_eq_true (by first | (with_reducible assumption) | assumption)
                                              obtain ⟨ad176, e176, hx176_0⟩ := Kd.at_int (Kd.R_reads' HO_10.out).2.2 ((rd_T74 l0 x14_3).f1) p176 q176
                                              obtain rfl : (⟨go23, 0, none⟩ : Addr) = ad176 := (by injection e176)
                                              (first | simp only [add_plain] at hx176_0 | simp only [add_at] at hx176_0 | simp only [Addr.add, Nat.zero_add] at hx176_0 | skip)
                                              replace p176 := eq_true p176
                                              replace q176 := eq_true q176
                                              refine start_ (n := 27) (S := fun w' => w'.cell? ⟨gb173, 0, none⟩ = some (.int .i64 ((rd_T74 l0 x14_3).f0)) ∧ w'.cell? ⟨gb173, 1, none⟩ = some (.int .i64 ((rd_T74 l0 x14_3).f1)) ∧ w'.cell? ⟨gb173, 2, none⟩ = some (.int .i64 ((rd_T74 l0 x14_3).f2)) ∧ w'.cell? ⟨gb173, 3, none⟩ = some (.int .i64 ((rd_T74 l0 x14_3).f3)) ∧ w'.cell? ⟨go23, (((rd_T74 l0 x14_3).f0)).toNat, none⟩ = some (.int .i64 (rd x10_3 ((rd_T74 l0 x14_3).f0))) ∧ w'.cell? ⟨go23, (((rd_T74 l0 x14_3).f0)).toNat, none⟩ = some (.int .i64 (rd x10_3 ((rd_T74 l0 x14_3).f0))) ∧ w'.cell? ⟨go23, (((rd_T74 l0 x14_3).f1)).toNat, none⟩ = some (.int .i64 (rd x10_3 ((rd_T74 l0 x14_3).f1)))) (ds := []) #[false, false, false, false, false, false, false, false, false, false, false, false, false, false, false, false, false, false, false, false, false, false, false, false, false, false, false] (by kernel_rfl) rfl rfl ⟨(blk_cell BK173.out 0).trans rfl, (blk_cell BK173.out 1).trans rfl, (blk_cell BK173.out 2).trans rfl, (blk_cell BK173.out 3).trans rfl, hx174_0, hx175_0, hx176_0⟩ (fun hHeld => ?_); refine with_tabW turndownref08_shortest.tab16 turndownref08_shortest.bits16 (fun HT_ HW_ => ?_)
                                              generalize w41.drew = w42 at HO_10 HO_11 BK173 HB hx174_0 hx175_0 hx176_0 hHeld ⊢
                                              refine pure_ (i := 0) (N := some 49) (v := ?_) (a' := ?_) #[true, false, false, false, false, false, false, false, false, false, false, false, false, false, false, false, false, false, false, false, false, false, false, false, false, false, false] rfl rfl (any_of HT_.out (by kernel_rfl)) (fun _ _ _ h => h) (Or.inl ⟨by rfl, ?_⟩) ?_ ?_
                                              rotate_left
                                              · intro w'
                                                go_simp
                                                with_reducible rfl
                                              rotate_left
                                              · simp only [Act.put, List.setIfInBounds_toArray, List.set_cons_zero, List.set_cons_succ, i64_w, i32_w]
                                                rfl
                                              refine take_ (i := 1) (N := some 50) (v := ?_) (a' := ?_) #[true, true, false, false, false, false, false, false, false, false, false, false, false, false, false, false, false, false, false, false, false, false, false, false, false, false, false] rfl rfl (take_ofW HT_.out HW_.out (by kernel_rfl)) (fun _ _ _ h => h) (Or.inl ⟨by rfl, ?_⟩) hHeld ?_ ?_
                                              rotate_left
                                              · rintro w' ⟨s0, s1, s2, s3, s4, s5, s6⟩
                                                go_simp
                                                with_reducible rfl
                                              rotate_left
                                              · simp only [Act.put, List.setIfInBounds_toArray, List.set_cons_zero, List.set_cons_succ, i64_w, i32_w]
                                                rfl
                                              refine pure_ (i := 2) (N := some 51) (v := ?_) (a' := ?_) #[true, true, true, false, false, false, false, false, false, false, false, false, false, false, false, false, false, false, false, false, false, false, false, false, false, false, false] rfl rfl (any_of HT_.out (by kernel_rfl)) (fun _ _ _ h => h) (Or.inl ⟨by rfl, ?_⟩) ?_ ?_
                                              rotate_left
                                              · intro w'
                                                go_simp
                                                with_reducible rfl
                                              rotate_left
                                              · simp only [Act.put, List.setIfInBounds_toArray, List.set_cons_zero, List.set_cons_succ, i64_w, i32_w]
                                                rfl
                                              refine pure_ (i := 3) (N := some 52) (v := ?_) (a' := ?_) #[true, true, true, true, false, false, false, false, false, false, false, false, false, false, false, false, false, false, false, false, false, false, false, false, false, false, false] rfl rfl (any_of HT_.out (by kernel_rfl)) (fun _ _ _ h => h) (Or.inl ⟨by rfl, ?_⟩) ?_ ?_
                                              rotate_left
                                              · intro w'
                                                go_simp
                                                with_reducible rfl
                                              rotate_left
                                              · simp only [Act.put, List.setIfInBounds_toArray, List.set_cons_zero, List.set_cons_succ, i64_w, i32_w]
                                                rfl
                                              refine pure_ (i := 4) (N := some 53) (v := ?_) (a' := ?_) #[true, true, true, true, true, false, false, false, false, false, false, false, false, false, false, false, false, false, false, false, false, false, false, false, false, false, false] rfl rfl (any_of HT_.out (by kernel_rfl)) (fun _ _ _ h => h) (Or.inl ⟨by rfl, ?_⟩) ?_ ?_
                                              rotate_left
                                              · intro w'
                                                go_simp
                                                with_reducible rfl
                                              rotate_left
                                              · simp only [Act.put, List.setIfInBounds_toArray, List.set_cons_zero, List.set_cons_succ, i64_w, i32_w]
                                                rfl
                                              refine pure_ (i := 5) (N := some 54) (v := ?_) (a' := ?_) #[true, true, true, true, true, true, false, false, false, false, false, false, false, false, false, false, false, false, false, false, false, false, false, false, false, false, false] rfl rfl (any_of HT_.out (by kernel_rfl)) (fun _ _ _ h => h) (Or.inl ⟨by rfl, ?_⟩) ?_ ?_
                                              rotate_left
                                              · intro w'
                                                go_simp
                                                with_reducible rfl
                                              rotate_left
                                              · simp only [Act.put, List.setIfInBounds_toArray, List.set_cons_zero, List.set_cons_succ, i64_w, i32_w]
                                                rfl
                                              refine take_ (i := 6) (N := some 55) (v := ?_) (a' := ?_) #[true, true, true, true, true, true, true, false, false, false, false, false, false, false, false, false, false, false, false, false, false, false, false, false, false, false, false] rfl rfl (take_ofW HT_.out HW_.out (by kernel_rfl)) (fun _ _ _ h => h) (Or.inl ⟨by rfl, ?_⟩) hHeld ?_ ?_
                                              rotate_left
                                              · rintro w' ⟨s0, s1, s2, s3, s4, s5, s6⟩
                                                go_simp
                                                with_reducible rfl
                                              rotate_left
                                              · simp only [Act.put, List.setIfInBounds_toArray, List.set_cons_zero, List.set_cons_succ, i64_w, i32_w]
                                                rfl
                                              refine pure_ (i := 7) (N := some 56) (v := ?_) (a' := ?_) #[true, true, true, true, true, true, true, true, false, false, false, false, false, false, false, false, false, false, false, false, false, false, false, false, false, false, false] rfl rfl (any_of HT_.out (by kernel_rfl)) (fun _ _ _ h => h) (Or.inl ⟨by rfl, ?_⟩) ?_ ?_
                                              rotate_left
                                              · intro w'
                                                go_simp
                                                with_reducible rfl
                                              rotate_left
                                              · simp only [Act.put, List.setIfInBounds_toArray, List.set_cons_zero, List.set_cons_succ, i64_w, i32_w]
                                                rfl
                                              refine take_ (i := 8) (N := some 57) (v := ?_) (a' := ?_) #[true, true, true, true, true, true, true, true, true, false, false, false, false, false, false, false, false, false, false, false, false, false, false, false, false, false, false] rfl rfl (take_ofW HT_.out HW_.out (by kernel_rfl)) (fun _ _ _ h => h) (Or.inl ⟨by rfl, ?_⟩) hHeld ?_ ?_
                                              rotate_left
                                              · rintro w' ⟨s0, s1, s2, s3, s4, s5, s6⟩
                                                go_simp
                                                with_reducible rfl
                                              rotate_left
                                              · simp only [Act.put, List.setIfInBounds_toArray, List.set_cons_zero, List.set_cons_succ, i64_w, i32_w]
                                                rfl
                                              refine pure_ (i := 9) (N := some 58) (v := ?_) (a' := ?_) #[true, true, true, true, true, true, true, true, true, true, false, false, false, false, false, false, false, false, false, false, false, false, false, false, false, false, false] rfl rfl (any_of HT_.out (by kernel_rfl)) (fun _ _ _ h => h) (Or.inl ⟨by rfl, ?_⟩) ?_ ?_
                                              rotate_left
                                              · intro w'
                                                go_simp
                                                with_reducible rfl
                                              rotate_left
                                              · simp only [Act.put, List.setIfInBounds_toArray, List.set_cons_zero, List.set_cons_succ, i64_w, i32_w]
                                                rfl
                                              refine pure_ (i := 10) (N := some 59) (v := ?_) (a' := ?_) #[true, true, true, true, true, true, true, true, true, true, true, false, false, false, false, false, false, false, false, false, false, false, false, false, false, false, false] rfl rfl (any_of HT_.out (by kernel_rfl)) (fun _ _ _ h => h) (Or.inl ⟨by rfl, ?_⟩) ?_ ?_
                                              rotate_left
                                              · intro w'
                                                go_simp
                                                with_reducible rfl
                                              rotate_left
                                              · simp only [Act.put, List.setIfInBounds_toArray, List.set_cons_zero, List.set_cons_succ, i64_w, i32_w]
                                                rfl
                                              refine pure_ (i := 11) (N := some 60) (v := ?_) (a' := ?_) #[true, true, true, true, true, true, true, true, true, true, true, true, false, false, false, false, false, false, false, false, false, false, false, false, false, false, false] rfl rfl (any_of HT_.out (by kernel_rfl)) (fun _ _ _ h => h) (Or.inl ⟨by rfl, ?_⟩) ?_ ?_
                                              rotate_left
                                              · intro w'
                                                go_simp
                                                with_reducible rfl
                                              rotate_left
                                              · simp only [Act.put, List.setIfInBounds_toArray, List.set_cons_zero, List.set_cons_succ, i64_w, i32_w]
                                                rfl
                                              refine pure_ (i := 12) (N := some 61) (v := ?_) (a' := ?_) #[true, true, true, true, true, true, true, true, true, true, true, true, true, false, false, false, false, false, false, false, false, false, false, false, false, false, false] rfl rfl (any_of HT_.out (by kernel_rfl)) (fun _ _ _ h => h) (Or.inl ⟨by rfl, ?_⟩) ?_ ?_
                                              rotate_left
                                              · intro w'
                                                go_simp
                                                with_reducible rfl
                                              rotate_left
                                              · simp only [Act.put, List.setIfInBounds_toArray, List.set_cons_zero, List.set_cons_succ, i64_w, i32_w]
                                                rfl
                                              refine pure_ (i := 13) (N := some 62) (v := ?_) (a' := ?_) #[true, true, true, true, true, true, true, true, true, true, true, true, true, true, false, false, false, false, false, false, false, false, false, false, false, false, false] rfl rfl (any_of HT_.out (by kernel_rfl)) (fun _ _ _ h => h) (Or.inl ⟨by rfl, ?_⟩) ?_ ?_
                                              rotate_left
                                              · intro w'
                                                go_simp
                                                with_reducible rfl
                                              rotate_left
                                              · simp only [Act.put, List.setIfInBounds_toArray, List.set_cons_zero, List.set_cons_succ, i64_w, i32_w]
                                                rfl
                                              refine pure_ (i := 17) (N := some 66) (v := ?_) (a' := ?_) #[true, true, true, true, true, true, true, true, true, true, true, true, true, true, false, false, false, true, false, false, false, false, false, false, false, false, false] rfl rfl (any_of HT_.out (by kernel_rfl)) (fun _ _ _ h => h) (Or.inl ⟨by rfl, ?_⟩) ?_ ?_
                                              rotate_left
                                              · intro w'
                                                go_simp
                                                with_reducible rfl
                                              rotate_left
                                              · simp only [Act.put, List.setIfInBounds_toArray, List.set_cons_zero, List.set_cons_succ, i64_w, i32_w]
                                                rfl
                                              refine pure_ (i := 20) (N := some 69) (v := ?_) (a' := ?_) #[true, true, true, true, true, true, true, true, true, true, true, true, true, true, false, false, false, true, false, false, true, false, false, false, false, false, false] rfl rfl (any_of HT_.out (by kernel_rfl)) (fun _ _ _ h => h) (Or.inl ⟨by rfl, ?_⟩) ?_ ?_
                                              rotate_left
                                              · intro w'
                                                go_simp
                                                with_reducible rfl
                                              rotate_left
                                              · simp only [Act.put, List.setIfInBounds_toArray, List.set_cons_zero, List.set_cons_succ, i64_w, i32_w]
                                                rfl
                                              refine pure_ (i := 21) (N := some 70) (v := ?_) (a' := ?_) #[true, true, true, true, true, true, true, true, true, true, true, true, true, true, false, false, false, true, false, false, true, true, false, false, false, false, false] rfl rfl (any_of HT_.out (by kernel_rfl)) (fun _ _ _ h => h) (Or.inl ⟨by rfl, ?_⟩) ?_ ?_
                                              rotate_left
                                              · intro w'
                                                go_simp
                                                with_reducible rfl
                                              rotate_left
                                              · simp only [Act.put, List.setIfInBounds_toArray, List.set_cons_zero, List.set_cons_succ, i64_w, i32_w]
                                                rfl
                                              refine take_ (i := 14) (N := some 63) (v := ?_) (a' := ?_) #[true, true, true, true, true, true, true, true, true, true, true, true, true, true, true, false, false, true, false, false, true, true, false, false, false, false, false] rfl rfl (take_ofW HT_.out HW_.out (by kernel_rfl)) (fun _ _ _ h => h) (Or.inl ⟨by rfl, ?_⟩) hHeld ?_ ?_
                                              rotate_left
                                              · rintro w' ⟨s0, s1, s2, s3, s4, s5, s6⟩
                                                go_simp
                                                with_reducible rfl
                                              rotate_left
                                              · simp only [Act.put, List.setIfInBounds_toArray, List.set_cons_zero, List.set_cons_succ, i64_w, i32_w]
                                                rfl
                                              refine pure_ (i := 15) (N := some 64) (v := ?_) (a' := ?_) #[true, true, true, true, true, true, true, true, true, true, true, true, true, true, true, true, false, true, false, false, true, true, false, false, false, false, false] rfl rfl (any_of HT_.out (by kernel_rfl)) (fun _ _ _ h => h) (Or.inl ⟨by rfl, ?_⟩) ?_ ?_
                                              rotate_left
                                              · intro w'
                                                go_simp
                                                with_reducible rfl
                                              rotate_left
                                              · simp only [Act.put, List.setIfInBounds_toArray, List.set_cons_zero, List.set_cons_succ, i64_w, i32_w]
                                                rfl
                                              refine take_ (i := 16) (N := some 65) (v := ?_) (a' := ?_) #[true, true, true, true, true, true, true, true, true, true, true, true, true, true, true, true, true, true, false, false, true, true, false, false, false, false, false] rfl rfl (take_ofW HT_.out HW_.out (by kernel_rfl)) (fun _ _ _ h => h) (Or.inl ⟨by rfl, ?_⟩) hHeld ?_ ?_
                                              rotate_left
                                              · rintro w' ⟨s0, s1, s2, s3, s4, s5, s6⟩
                                                go_simp
                                                with_reducible rfl
                                              rotate_left
                                              · simp only [Act.put, List.setIfInBounds_toArray, List.set_cons_zero, List.set_cons_succ, i64_w, i32_w]
                                                rfl
                                              refine take_ (i := 18) (N := some 67) (v := ?_) (a' := ?_) #[true, true, true, true, true, true, true, true, true, true, true, true, true, true, true, true, true, true, true, false, true, true, false, false, false, false, false] rfl rfl (take_ofW HT_.out HW_.out (by kernel_rfl)) (fun _ _ _ h => h) (Or.inl ⟨by rfl, ?_⟩) hHeld ?_ ?_
                                              rotate_left
                                              · rintro w' ⟨s0, s1, s2, s3, s4, s5, s6⟩
                                                go_simp
                                                with_reducible rfl
                                              rotate_left
                                              · simp only [Act.put, List.setIfInBounds_toArray, List.set_cons_zero, List.set_cons_succ, i64_w, i32_w]
                                                rfl
                                              refine pure_ (i := 19) (N := some 68) (v := ?_) (a' := ?_) #[true, true, true, true, true, true, true, true, true, true, true, true, true, true, true, true, true, true, true, true, true, true, false, false, false, false, false] rfl rfl (any_of HT_.out (by kernel_rfl)) (fun _ _ _ h => h) (Or.inl ⟨by rfl, ?_⟩) ?_ ?_
                                              rotate_left
                                              · intro w'
                                                go_simp
                                                with_reducible rfl
                                              rotate_left
                                              · simp only [Act.put, List.setIfInBounds_toArray, List.set_cons_zero, List.set_cons_succ, i64_w, i32_w]
                                                rfl
                                              refine take_ (i := 22) (N := some 71) (v := ?_) (a' := ?_) #[true, true, true, true, true, true, true, true, true, true, true, true, true, true, true, true, true, true, true, true, true, true, true, false, false, false, false] rfl rfl (take_ofW HT_.out HW_.out (by kernel_rfl)) (fun _ _ _ h => h) (Or.inl ⟨by rfl, ?_⟩) hHeld ?_ ?_
                                              rotate_left
                                              · rintro w' ⟨s0, s1, s2, s3, s4, s5, s6⟩
                                                go_simp
                                                with_reducible rfl
                                              rotate_left
                                              · simp only [Act.put, List.setIfInBounds_toArray, List.set_cons_zero, List.set_cons_succ, i64_w, i32_w]
                                                rfl
                                              refine pure_ (i := 23) (N := some 72) (v := ?_) (a' := ?_) #[true, true, true, true, true, true, true, true, true, true, true, true, true, true, true, true, true, true, true, true, true, true, true, true, false, false, false] rfl rfl (any_of HT_.out (by kernel_rfl)) (fun _ _ _ h => h) (Or.inl ⟨by rfl, ?_⟩) ?_ ?_
                                              rotate_left
                                              · intro w'
                                                go_simp
                                                with_reducible rfl
                                              rotate_left
                                              · simp only [Act.put, List.setIfInBounds_toArray, List.set_cons_zero, List.set_cons_succ, i64_w, i32_w]
                                                rfl
                                              refine take_ (i := 24) (N := some 73) (v := ?_) (a' := ?_) #[true, true, true, true, true, true, true, true, true, true, true, true, true, true, true, true, true, true, true, true, true, true, true, true, true, false, false] rfl rfl (take_ofW HT_.out HW_.out (by kernel_rfl)) (fun _ _ _ h => h) (Or.inl ⟨by rfl, ?_⟩) hHeld ?_ ?_
                                              rotate_left
                                              · rintro w' ⟨s0, s1, s2, s3, s4, s5, s6⟩
                                                go_simp
                                                with_reducible rfl
                                              rotate_left
                                              · simp only [Act.put, List.setIfInBounds_toArray, List.set_cons_zero, List.set_cons_succ, i64_w, i32_w]
                                                rfl
                                              refine pure_ (i := 25) (N := some 74) (v := ?_) (a' := ?_) #[true, true, true, true, true, true, true, true, true, true, true, true, true, true, true, true, true, true, true, true, true, true, true, true, true, true, false] rfl rfl (any_of HT_.out (by kernel_rfl)) (fun _ _ _ h => h) (Or.inl ⟨by rfl, ?_⟩) ?_ ?_
                                              rotate_left
                                              · intro w'
                                                go_simp
                                                with_reducible rfl
                                              rotate_left
                                              · simp only [Act.put, List.setIfInBounds_toArray, List.set_cons_zero, List.set_cons_succ, i64_w, i32_w]
                                                rfl
                                              refine pure_ (i := 26) (N := some 75) (v := ?_) (a' := ?_) #[true, true, true, true, true, true, true, true, true, true, true, true, true, true, true, true, true, true, true, true, true, true, true, true, true, true, true] rfl rfl (any_of HT_.out (by kernel_rfl)) (fun _ _ _ h => h) (Or.inl ⟨by rfl, ?_⟩) ?_ ?_
                                              rotate_left
                                              · intro w'
                                                go_simp
                                                with_reducible rfl
                                              rotate_left
                                              · simp only [Act.put, List.setIfInBounds_toArray, List.set_cons_zero, List.set_cons_succ, i64_w, i32_w]
                                                rfl
                                              refine done_ (done_of HT_.out (by kernel_rfl)) ?_
                                              try go_wp2
                                              have n0_ := Aside0.mk (Kd.R_drew HO_10.out)
                                              have n1_ := Aside0.mk (Kd.R_drew HO_11.out)
                                              have n2_ := Aside0.mk (blk_drew BK173.out)
                                              have n3_ := Aside0.mk (below_drew1 HB.out)
                                              clear HO_10
                                              clear HO_11
                                              clear BK173
                                              clear HB
                                              have HO_10 := n0_
                                              have HO_11 := n1_
                                              have BK173 := n2_
                                              have HB := n3_
                                              clear n0_ n1_ n2_ n3_
                                              have p177 : 0 ≤ (((rd_T74 l0 x14_3).f0) : Int) := of_decide_eq_true (by first | (with_reducible assumption) | assumption)
                                              have q177 : ((rd_T74 l0 x14_3).f0) < (x10_3.length : Int) := of_decide_eq_true (by first | (with_reducible assumption) | assumption)
                                              obtain ⟨ad177, e177, hx177_0⟩ := Kd.at_int (Kd.R_reads' HO_10.out).2.2 ((rd_T74 l0 x14_3).f0) p177 q177
                                              obtain rfl : (⟨go23, 0, none⟩ : Addr) = ad177 := (by injection e177)
                                              (first | simp only [add_plain] at hx177_0 | simp only [add_at] at hx177_0 | simp only [Addr.add, Nat.zero_add] at hx177_0 | skip)
                                              replace p177 := eq_true p177
                                              replace q177 := eq_true q177
                                              have p36 : 0 ≤ (((rd_T74 l0 x14_3).f1) : Int) := of_decide_eq_true (by first | (with_reducible assumption) | assumption)
                                              have q36 : (((rd_T74 l0 x14_3).f1) : Int) < ((x10_3.length : Int) : Int) := of_decide_eq_true (by first | (with_reducible assumption) | assumption)
                                              obtain ⟨hx36_0, hf36_0⟩ := Kd.R_celln 0 HO_10.out (((rd_T74 l0 x14_3).f1) : Int) p36 q36
                                              replace p36 := eq_true p36
                                              replace q36 := eq_true q36
                                              have HP44 := Kd.R_putn HO_10.out (((rd_T74 l0 x14_3).f1) : Int) (wrap64 ((rd x10_3 ((rd_T74 l0 x14_3).f0)) + ((rd_T74 l0 x14_3).f3)))
                                              rw [← Ny178.out] at HP44
                                              have HQ44 := Aside0.mk HP44
                                              clear HP44
                                              refine start_ (n := 13) (S := fun w' => w'.cell? ⟨gb173, 0, none⟩ = some (.int .i64 ((rd_T74 l0 x14_3).f0)) ∧ w'.cell? ⟨gb173, 1, none⟩ = some (.int .i64 ((rd_T74 l0 x14_3).f1)) ∧ w'.cell? ⟨gb173, 2, none⟩ = some (.int .i64 ((rd_T74 l0 x14_3).f2)) ∧ w'.cell? ⟨gb173, 3, none⟩ = some (.int .i64 ((rd_T74 l0 x14_3).f3)) ∧ w'.cell? ⟨go23, (((rd_T74 l0 x14_3).f0)).toNat, none⟩ = some (.int .i64 (rd x10_3 ((rd_T74 l0 x14_3).f0)))) (ds := [12]) #[false, false, false, false, false, false, false, false, false, false, false, false, false] (by kernel_rfl) rfl rfl ⟨(blk_cell BK173.out 0).trans rfl, (blk_cell BK173.out 1).trans rfl, (blk_cell BK173.out 2).trans rfl, (blk_cell BK173.out 3).trans rfl, hx177_0⟩ (fun hHeld => ?_); refine with_tabW turndownref08_shortest.tab17 turndownref08_shortest.bits17 (fun HT_ HW_ => ?_)
                                              generalize w42.drew = w43 at HO_10 HO_11 BK173 HB HQ44 hf36_0 hx177_0 hx36_0 hHeld ⊢
                                              refine pure_ (i := 0) (N := some 76) (v := ?_) (a' := ?_) #[true, false, false, false, false, false, false, false, false, false, false, false, false] rfl rfl (any_of HT_.out (by kernel_rfl)) (fun _ _ _ h => h) (Or.inl ⟨by rfl, ?_⟩) ?_ ?_
                                              rotate_left
                                              · intro w'
                                                go_simp
                                                with_reducible rfl
                                              rotate_left
                                              · simp only [Act.put, List.setIfInBounds_toArray, List.set_cons_zero, List.set_cons_succ, i64_w, i32_w]
                                                rfl
                                              refine pure_ (i := 1) (N := some 77) (v := ?_) (a' := ?_) #[true, true, false, false, false, false, false, false, false, false, false, false, false] rfl rfl (any_of HT_.out (by kernel_rfl)) (fun _ _ _ h => h) (Or.inl ⟨by rfl, ?_⟩) ?_ ?_
                                              rotate_left
                                              · intro w'
                                                go_simp
                                                with_reducible rfl
                                              rotate_left
                                              · simp only [Act.put, List.setIfInBounds_toArray, List.set_cons_zero, List.set_cons_succ, i64_w, i32_w]
                                                rfl
                                              refine pure_ (i := 3) (N := some 79) (v := ?_) (a' := ?_) #[true, true, false, true, false, false, false, false, false, false, false, false, false] rfl rfl (any_of HT_.out (by kernel_rfl)) (fun _ _ _ h => h) (Or.inl ⟨by rfl, ?_⟩) ?_ ?_
                                              rotate_left
                                              · intro w'
                                                go_simp
                                                with_reducible rfl
                                              rotate_left
                                              · simp only [Act.put, List.setIfInBounds_toArray, List.set_cons_zero, List.set_cons_succ, i64_w, i32_w]
                                                rfl
                                              refine pure_ (i := 4) (N := some 80) (v := ?_) (a' := ?_) #[true, true, false, true, true, false, false, false, false, false, false, false, false] rfl rfl (any_of HT_.out (by kernel_rfl)) (fun _ _ _ h => h) (Or.inl ⟨by rfl, ?_⟩) ?_ ?_
                                              rotate_left
                                              · intro w'
                                                go_simp
                                                with_reducible rfl
                                              rotate_left
                                              · simp only [Act.put, List.setIfInBounds_toArray, List.set_cons_zero, List.set_cons_succ, i64_w, i32_w]
                                                rfl
                                              refine pure_ (i := 8) (N := some 84) (v := ?_) (a' := ?_) #[true, true, false, true, true, false, false, false, true, false, false, false, false] rfl rfl (any_of HT_.out (by kernel_rfl)) (fun _ _ _ h => h) (Or.inl ⟨by rfl, ?_⟩) ?_ ?_
                                              rotate_left
                                              · intro w'
                                                go_simp
                                                with_reducible rfl
                                              rotate_left
                                              · simp only [Act.put, List.setIfInBounds_toArray, List.set_cons_zero, List.set_cons_succ, i64_w, i32_w]
                                                rfl
                                              refine take_ (i := 2) (N := some 78) (v := ?_) (a' := ?_) #[true, true, true, true, true, false, false, false, true, false, false, false, false] rfl rfl (take_ofW HT_.out HW_.out (by kernel_rfl)) (fun _ _ _ h => h) (Or.inl ⟨by rfl, ?_⟩) hHeld ?_ ?_
                                              rotate_left
                                              · rintro w' ⟨s0, s1, s2, s3, s4⟩
                                                go_simp
                                                with_reducible rfl
                                              rotate_left
                                              · simp only [Act.put, List.setIfInBounds_toArray, List.set_cons_zero, List.set_cons_succ, i64_w, i32_w]
                                                rfl
                                              refine take_ (i := 5) (N := some 81) (v := ?_) (a' := ?_) #[true, true, true, true, true, true, false, false, true, false, false, false, false] rfl rfl (take_ofW HT_.out HW_.out (by kernel_rfl)) (fun _ _ _ h => h) (Or.inl ⟨by rfl, ?_⟩) hHeld ?_ ?_
                                              rotate_left
                                              · rintro w' ⟨s0, s1, s2, s3, s4⟩
                                                go_simp
                                                with_reducible rfl
                                              rotate_left
                                              · simp only [Act.put, List.setIfInBounds_toArray, List.set_cons_zero, List.set_cons_succ, i64_w, i32_w]
                                                rfl
                                              refine pure_ (i := 6) (N := some 82) (v := ?_) (a' := ?_) #[true, true, true, true, true, true, true, false, true, false, false, false, false] rfl rfl (any_of HT_.out (by kernel_rfl)) (fun _ _ _ h => h) (Or.inl ⟨by rfl, ?_⟩) ?_ ?_
                                              rotate_left
                                              · intro w'
                                                go_simp
                                                with_reducible rfl
                                              rotate_left
                                              · simp only [Act.put, List.setIfInBounds_toArray, List.set_cons_zero, List.set_cons_succ, i64_w, i32_w]
                                                rfl
                                              refine take_ (i := 7) (N := some 83) (v := ?_) (a' := ?_) #[true, true, true, true, true, true, true, true, true, false, false, false, false] rfl rfl (take_ofW HT_.out HW_.out (by kernel_rfl)) (fun _ _ _ h => h) (Or.inl ⟨by rfl, ?_⟩) hHeld ?_ ?_
                                              rotate_left
                                              · rintro w' ⟨s0, s1, s2, s3, s4⟩
                                                go_simp
                                                with_reducible rfl
                                              rotate_left
                                              · simp only [Act.put, List.setIfInBounds_toArray, List.set_cons_zero, List.set_cons_succ, i64_w, i32_w]
                                                rfl
                                              refine take_ (i := 9) (N := some 85) (v := ?_) (a' := ?_) #[true, true, true, true, true, true, true, true, true, true, false, false, false] rfl rfl (take_ofW HT_.out HW_.out (by kernel_rfl)) (fun _ _ _ h => h) (Or.inl ⟨by rfl, ?_⟩) hHeld ?_ ?_
                                              rotate_left
                                              · rintro w' ⟨s0, s1, s2, s3, s4⟩
                                                go_simp
                                                with_reducible rfl
                                              rotate_left
                                              · simp only [Act.put, List.setIfInBounds_toArray, List.set_cons_zero, List.set_cons_succ, i64_w, i32_w]
                                                rfl
                                              refine pure_ (i := 10) (N := some 86) (v := ?_) (a' := ?_) #[true, true, true, true, true, true, true, true, true, true, true, false, false] rfl rfl (any_of HT_.out (by kernel_rfl)) (fun _ _ _ h => h) (Or.inl ⟨by rfl, ?_⟩) ?_ ?_
                                              rotate_left
                                              · intro w'
                                                go_simp
                                                with_reducible rfl
                                              rotate_left
                                              · simp only [Act.put, List.setIfInBounds_toArray, List.set_cons_zero, List.set_cons_succ, i64_w, i32_w]
                                                rfl
                                              refine pure_ (i := 11) (N := some 87) (v := ?_) (a' := ?_) #[true, true, true, true, true, true, true, true, true, true, true, true, false] rfl rfl (any_of HT_.out (by kernel_rfl)) (fun _ _ _ h => h) (Or.inl ⟨by rfl, ?_⟩) ?_ ?_
                                              rotate_left
                                              · intro w'
                                                go_simp
                                                with_reducible rfl
                                              rotate_left
                                              · simp only [Act.put, List.setIfInBounds_toArray, List.set_cons_zero, List.set_cons_succ, i64_w, i32_w]
                                                rfl
                                              refine last_ (i := 12) (N := none) #[true, true, true, true, true, true, true, true, true, true, true, true, true] rfl rfl (one_of HT_.out (by kernel_rfl)) (by decide) (fun K hK => ?_)
                                              refine skip_ (w1 := ?_) (by rfl) rfl ?_ ?_
                                              rotate_left
                                              · go_simp
                                                rfl
                                              refine hK.out _ _ ?_
                                              clear hK K
                                              refine done_ (done_of HT_.out (by kernel_rfl)) ?_
                                              have n0_ : Aside0 (Kd.R (Kd.int .i64) 3 (w43.setCell ⟨go23, (((rd_T74 l0 x14_3).f1) : Int).toNat, none⟩ (.int .i64 (wrap64 ((rd x10_3 ((rd_T74 l0 x14_3).f0)) + ((rd_T74 l0 x14_3).f3))))) w.heap.size (fun k_ => some k_ ≠ (v167 : Value).ownBlock) (.slice (some ⟨go23, 0, none⟩) x10_3.length co23) y178) := ⟨by (with_reducible repeat (first | apply Kd.R_alloc | apply Kd.R_drewN | apply Kd.R_drew)); exact HQ44.out⟩
                                              have n1_ : Aside0 (Kd.R (Kd.int .i64) 3 (w43.setCell ⟨go23, (((rd_T74 l0 x14_3).f1) : Int).toNat, none⟩ (.int .i64 (wrap64 ((rd x10_3 ((rd_T74 l0 x14_3).f0)) + ((rd_T74 l0 x14_3).f3))))) w.heap.size (fun k_ => some k_ ≠ (.slice (some ⟨go23, 0, none⟩) x10_3.length co23 : Value).ownBlock) v167 x11_3) := ⟨by (with_reducible repeat (first | apply Kd.R_alloc | apply Kd.R_drewN | apply Kd.R_drew)); exact Kd.R_mono (Kd.R_far (p := ⟨go23, (((rd_T74 l0 x14_3).f1) : Int).toNat, none⟩) (Kd.R_mono HO_11.out (fun k_ hk => (⟨hk, fun e_ => hk (by rw [e_]; rfl)⟩ : _ ∧ k_ ≠ go23))) (fun _ hk => hk.2) (.int .i64 (wrap64 ((rd x10_3 ((rd_T74 l0 x14_3).f0)) + ((rd_T74 l0 x14_3).f3))))) (fun _ hk => hk.1)⟩
                                              have n2_ : Aside0 ((w43.setCell ⟨go23, (((rd_T74 l0 x14_3).f1) : Int).toNat, none⟩ (.int .i64 (wrap64 ((rd x10_3 ((rd_T74 l0 x14_3).f0)) + ((rd_T74 l0 x14_3).f3))))).heap[gb173]? = some (.cells #[.int .i64 ((rd_T74 l0 x14_3).f0), .int .i64 ((rd_T74 l0 x14_3).f1), .int .i64 ((rd_T74 l0 x14_3).f2), .int .i64 ((rd_T74 l0 x14_3).f3)] 74 (0, 0))) := ⟨by (with_reducible repeat (first | refine blk_drewN ?_ _ | refine blk_drew ?_ | refine blk_alloc ?_ _)); refine blk_far ?_ (by have h_ := Kd.R_ne HO_10.out BK173.out (by decide); intro e_; exact h_ (by rw [e_]; rfl)) _; (with_reducible repeat (first | refine blk_drewN ?_ _ | refine blk_drew ?_ | refine blk_alloc ?_ _)); exact BK173.out⟩
                                              have n3_ : Aside0 (Below w.heap.size w (w43.setCell ⟨go23, (((rd_T74 l0 x14_3).f1) : Int).toNat, none⟩ (.int .i64 (wrap64 ((rd x10_3 ((rd_T74 l0 x14_3).f0)) + ((rd_T74 l0 x14_3).f3)))))) := ⟨by repeat (first | (with_reducible first | exact HB.out | apply below_alloc | apply pw_below_drewN | apply below_drew1 | refine below_set ?_ GB23.out | refine below_set ?_ GE173.out) | exact HB.out)⟩
                                              (try clear HO_10)
                                              (try clear HO_11)
                                              (try clear BK173)
                                              (try clear HB)
                                              generalize (w43.setCell ⟨go23, (((rd_T74 l0 x14_3).f1) : Int).toNat, none⟩ (.int .i64 (wrap64 ((rd x10_3 ((rd_T74 l0 x14_3).f0)) + ((rd_T74 l0 x14_3).f3))))) = w45 at n0_ n1_ n2_ n3_ ⊢
                                              have HO_10 := n0_
                                              have HO_11 := n1_
                                              have BK173 := n2_
                                              have HB := n3_
                                              clear n0_ n1_ n2_ n3_
                                              have hcz46_0 : w45.cell? ⟨gb173, 0, none⟩ = some (.int .i64 ((rd_T74 l0 x14_3).f0)) := (blk_cell BK173.out 0).trans rfl
                                              have hcz46_1 : w45.cell? ⟨gb173, 1, none⟩ = some (.int .i64 ((rd_T74 l0 x14_3).f1)) := (blk_cell BK173.out 1).trans rfl
                                              have hcz46_2 : w45.cell? ⟨gb173, 2, none⟩ = some (.int .i64 ((rd_T74 l0 x14_3).f2)) := (blk_cell BK173.out 2).trans rfl
                                              have hcz46_3 : w45.cell? ⟨gb173, 3, none⟩ = some (.int .i64 ((rd_T74 l0 x14_3).f3)) := (blk_cell BK173.out 3).trans rfl
                                              have hfz46_0 := blk_frozen BK173.out 0
                                              have hfz46_1 := blk_frozen BK173.out 1
                                              have hfz46_2 := blk_frozen BK173.out 2
                                              have hfz46_3 := blk_frozen BK173.out 3
                                              have p38 : 0 ≤ (((rd_T74 l0 x14_3).f1) : Int) := of_decide_eq_true (by first | (with_reducible assumption) | assumption)
                                              have q38 : (((rd_T74 l0 x14_3).f1) : Int) < ((x11_3.length : Int) : Int) := of_decide_eq_true (by first | (with_reducible assumption) | assumption)
                                              obtain ⟨go38, co38, eo38, gb38, gl38, cl38, HG38⟩ := Kd.R_form HO_11.out (by omega)
                                              (first | cases eo38 | (injection eo38 with ea_ en_ ec_; (first | subst ea_ | (injection ea_ with ea_; subst ea_)); subst ec_; clear en_))
                                              have GB38 := Aside0.mk gb38
                                              have GG38 := Aside0.mk HG38
                                              clear gb38 gl38 HG38
                                              obtain ⟨hx38_0, hf38_0⟩ := Kd.R_celln 0 HO_11.out (((rd_T74 l0 x14_3).f1) : Int) p38 q38
                                              replace p38 := eq_true p38
                                              replace q38 := eq_true q38
                                              obtain ⟨hy47_, hz47_⟩ := Kd.R_celln 0 HO_11.out (((rd_T74 l0 x14_3).f1) : Int) (of_decide_eq_true (by first | (with_reducible assumption) | assumption)) (of_decide_eq_true (by first | (with_reducible assumption) | assumption))
                                              have HP47 := Kd.R_putg HO_11.out (((rd_T74 l0 x14_3).f1) : Int) x14_3
                                              try go_wp2_with (first | ((with_reducible refine gate_store (t := 3) (p := 92) rfl ?_); refine store_event (t := 3) (p := 92) (v := ?vo_w48) (w1 := (w45.setCell ⟨go38, (((rd_T74 l0 x14_3).f1) : Int).toNat, none⟩ (.int .i64 x14_3))) ?hg ?ho ?hn ?hr ?_; (case ho => rfl); (case hg => rfl); (case hn => rfl); (case hr => first | (go_simp; done) | (go_simp; rfl)); intro w48 hw; have hg : w45.grownBy w48 (some go38) := (by rw [hw]; exact HP47.2); have hp_ : Kd.R (Kd.int .i64) 3 w48 w.heap.size (fun k_ => some k_ ≠ (.slice (some ⟨go23, 0, none⟩) x10_3.length co23 : Value).ownBlock) (.slice (some ⟨go38, 0, none⟩) x11_3.length co38) y179 := (by rw [hw, Ny179.out]; exact HP47.1); clear HP47; have n0_ := Aside0.mk (Kd.R_after (v := (.slice (some ⟨go38, 0, none⟩) x11_3.length co38)) (v1 := (.slice (some ⟨go38, 0, none⟩) x11_3.length co38)) (ok := (fun _ => True)) (by (with_reducible repeat (first | apply Kd.R_alloc | apply Kd.R_drewN | apply Kd.R_drew)); exact Kd.R_mono HO_10.out (fun _ hk => ⟨trivial, hk⟩)) hg (.inl rfl)); have n1_ := Aside0.mk (hp_); have n2_ := Aside0.mk (blk_grown (g := gb173) (o := .cells #[.int .i64 ((rd_T74 l0 x14_3).f0), .int .i64 ((rd_T74 l0 x14_3).f1), .int .i64 ((rd_T74 l0 x14_3).f2), .int .i64 ((rd_T74 l0 x14_3).f3)] 74 (0, 0)) (by (with_reducible repeat (first | refine blk_drewN ?_ _ | refine blk_drew ?_ | refine blk_alloc ?_ _)); exact BK173.out) hg (Kd.R_ne HO_11.out BK173.out (by decide))); have n3_ := Aside0.mk ((by rw [hw]; exact below_set (HB.out) GB38.out : Below w.heap.size w w48)); clear HO_10; clear HO_11; clear BK173; clear HB; have HO_10 := n0_; have HO_11 := n1_; have BK173 := n2_; have HB := n3_; clear n0_ n1_ n2_ n3_; clear hg hw hp_))
                                              (try simp only [← hl10_3])
                                              go_roundg k3
                                              case measure => have := HK1.out; have := HK2.out; have := HK3.out; omega
                                              case rel => exact ⟨(y178), (y179), (true), (wrap64 (x14_3 + 1)), (by first | rfl | (simp; done) | (simp [*]; done)), (by first | rfl | (simp; done) | (simp [*]; done)), H', ⟨by have := HK1.out; have := HK2.out; have := HK3.out; omega⟩, ⟨by (try simp only [hl10_2]); (try simp only [hl10_3]); (with_reducible repeat (first | apply Kd.R_alloc | apply Kd.R_drewN | apply Kd.R_drew)); exact Kd.R_mono HO_10.out (fun _ hk => hk.2)⟩, ⟨by (try simp only [hl10_2]); (try simp only [hl10_3]); (with_reducible repeat (first | apply Kd.R_alloc | apply Kd.R_drewN | apply Kd.R_drew)); exact HO_11.out⟩, ⟨by repeat (first | (with_reducible first | exact HB.out | apply below_alloc | apply pw_below_drewN | apply below_drew1 | refine below_set ?_ GE173.out) | exact HB.out)⟩⟩
                                            · rw [if_neg c37] at H
                                              exact absurd H (by simp)
                                          · rw [if_neg c35] at H
                                            have c35b0 : decide ((wrap64 ((rd x10_3 ((rd_T74 l0 x14_3).f0)) + ((rd_T74 l0 x14_3).f3))) < (rd x10_3 ((rd_T74 l0 x14_3).f1))) = false := decide_eq_false c35
                                            clear c35
                                            have H' := Aside0.mk H
                                            clear H
                                            have p172 : 0 ≤ (x14_3 : Int) := of_decide_eq_true (by first | (with_reducible assumption) | assumption)
                                            have q172 : x14_3 < (l0.length : Int) := of_decide_eq_true (by first | (with_reducible assumption) | assumption)
                                            obtain ⟨ad172, e172, hx172_0, hx172_1, hx172_2, hx172_3⟩ := at_T74 HR0.out x14_3 p172 q172
                                            cases e172
                                            replace hx172_0 := (HB.out.cell (World.block_lt_of_cell? w _ hx172_0)).trans hx172_0
                                            replace hx172_1 := (HB.out.cell (World.block_lt_of_cell? w _ hx172_1)).trans hx172_1
                                            replace hx172_2 := (HB.out.cell (World.block_lt_of_cell? w _ hx172_2)).trans hx172_2
                                            replace hx172_3 := (HB.out.cell (World.block_lt_of_cell? w _ hx172_3)).trans hx172_3
                                            replace p172 := eq_true p172
                                            replace q172 := eq_true q172
                                            try go_wp2_with (first | ((with_reducible refine gate_dst (N := 15) rfl ?_); refine box_event ?hg (N := 15) ?hd (cs := #[.int .i64 0, .int .i64 0, .int .i64 0, .int .i64 0]) (t := 74) ?hr ?_; (case hd => rfl); (case hg => rfl); (case hr => first | (go_simp; done) | (go_simp; rfl)); intro gb173 hg w49 hbox hb; have n0_ := Aside0.mk (Kd.R_below (by (with_reducible repeat (first | apply Kd.R_alloc | apply Kd.R_drewN | apply Kd.R_drew)); exact HO_10.out) hb); have n1_ := Aside0.mk (Kd.R_below (by (with_reducible repeat (first | apply Kd.R_alloc | apply Kd.R_drewN | apply Kd.R_drew)); exact HO_11.out) hb); have n2_ := Aside0.mk (below_step (by repeat (first | (with_reducible first | exact HB.out | apply below_alloc | apply pw_below_drewN | apply below_drew1) | exact HB.out)) hb); have n3_ := Aside0.mk (hbox); have n4_ := Aside0.mk ((by rw [hg]; exact (below_size (by repeat (first | (with_reducible first | exact HB.out | apply below_alloc | apply pw_below_drewN | apply below_drew1) | exact HB.out))) : w.heap.size ≤ gb173)); have n5_ := Aside0.mk ((by rw [hg]; exact (below_size (by repeat (first | (with_reducible first | exact HB.out | apply below_alloc | apply pw_below_drewN | apply below_drew1) | exact HB.out))) : w.heap.size ≤ gb173)); clear HO_10; clear HO_11; clear HB; have HO_10 := n0_; have HO_11 := n1_; have HB := n2_; have BK173 := n3_; have GW173 := n4_; have GE173 := n5_; clear n0_ n1_ n2_ n3_ n4_ n5_; clear hb hbox hg; have hcz50_0 : w49.cell? ⟨gb173, 0, none⟩ = some (.int .i64 0) := (blk_cell BK173.out 0).trans rfl; have hcz50_1 : w49.cell? ⟨gb173, 1, none⟩ = some (.int .i64 0) := (blk_cell BK173.out 1).trans rfl; have hcz50_2 : w49.cell? ⟨gb173, 2, none⟩ = some (.int .i64 0) := (blk_cell BK173.out 2).trans rfl; have hcz50_3 : w49.cell? ⟨gb173, 3, none⟩ = some (.int .i64 0) := (blk_cell BK173.out 3).trans rfl; have hfz50_0 := blk_frozen BK173.out 0; have hfz50_1 := blk_frozen BK173.out 1; have hfz50_2 := blk_frozen BK173.out 2; have hfz50_3 := blk_frozen BK173.out 3))
                                            have n0_ : Aside0 (Kd.R (Kd.int .i64) 3 ((((w49.setCell ⟨gb173, 0, none⟩ (.int .i64 ((rd_T74 l0 x14_3).f0))).setCell ⟨gb173, 1, none⟩ (.int .i64 ((rd_T74 l0 x14_3).f1))).setCell ⟨gb173, 2, none⟩ (.int .i64 ((rd_T74 l0 x14_3).f2))).setCell ⟨gb173, 3, none⟩ (.int .i64 ((rd_T74 l0 x14_3).f3))) w.heap.size (fun k_ => some k_ ≠ (v167 : Value).ownBlock) (.slice (some ⟨go23, 0, none⟩) x10_3.length co23) x10_3) := ⟨by (with_reducible repeat (first | apply Kd.R_alloc | apply Kd.R_drewN | apply Kd.R_drew)); exact Kd.R_mono (Kd.R_far (p := ⟨gb173, 3, none⟩) (Kd.R_far (p := ⟨gb173, 2, none⟩) (Kd.R_far (p := ⟨gb173, 1, none⟩) (Kd.R_far (p := ⟨gb173, 0, none⟩) (Kd.R_types HO_10.out BK173.out (by decide)) (fun _ hk => hk.2) (.int .i64 ((rd_T74 l0 x14_3).f0))) (fun _ hk => hk.2) (.int .i64 ((rd_T74 l0 x14_3).f1))) (fun _ hk => hk.2) (.int .i64 ((rd_T74 l0 x14_3).f2))) (fun _ hk => hk.2) (.int .i64 ((rd_T74 l0 x14_3).f3))) (fun _ hk => hk.1)⟩
                                            have n1_ : Aside0 (Kd.R (Kd.int .i64) 3 ((((w49.setCell ⟨gb173, 0, none⟩ (.int .i64 ((rd_T74 l0 x14_3).f0))).setCell ⟨gb173, 1, none⟩ (.int .i64 ((rd_T74 l0 x14_3).f1))).setCell ⟨gb173, 2, none⟩ (.int .i64 ((rd_T74 l0 x14_3).f2))).setCell ⟨gb173, 3, none⟩ (.int .i64 ((rd_T74 l0 x14_3).f3))) w.heap.size (fun k_ => some k_ ≠ (.slice (some ⟨go23, 0, none⟩) x10_3.length co23 : Value).ownBlock) v167 x11_3) := ⟨by (with_reducible repeat (first | apply Kd.R_alloc | apply Kd.R_drewN | apply Kd.R_drew)); exact Kd.R_mono (Kd.R_far (p := ⟨gb173, 3, none⟩) (Kd.R_far (p := ⟨gb173, 2, none⟩) (Kd.R_far (p := ⟨gb173, 1, none⟩) (Kd.R_far (p := ⟨gb173, 0, none⟩) (Kd.R_types HO_11.out BK173.out (by decide)) (fun _ hk => hk.2) (.int .i64 ((rd_T74 l0 x14_3).f0))) (fun _ hk => hk.2) (.int .i64 ((rd_T74 l0 x14_3).f1))) (fun _ hk => hk.2) (.int .i64 ((rd_T74 l0 x14_3).f2))) (fun _ hk => hk.2) (.int .i64 ((rd_T74 l0 x14_3).f3))) (fun _ hk => hk.1)⟩
                                            have n2_ : Aside0 (((((w49.setCell ⟨gb173, 0, none⟩ (.int .i64 ((rd_T74 l0 x14_3).f0))).setCell ⟨gb173, 1, none⟩ (.int .i64 ((rd_T74 l0 x14_3).f1))).setCell ⟨gb173, 2, none⟩ (.int .i64 ((rd_T74 l0 x14_3).f2))).setCell ⟨gb173, 3, none⟩ (.int .i64 ((rd_T74 l0 x14_3).f3))).heap[gb173]? = some (.cells #[.int .i64 ((rd_T74 l0 x14_3).f0), .int .i64 ((rd_T74 l0 x14_3).f1), .int .i64 ((rd_T74 l0 x14_3).f2), .int .i64 ((rd_T74 l0 x14_3).f3)] 74 (0, 0))) := ⟨by (with_reducible repeat (first | refine blk_drewN ?_ _ | refine blk_drew ?_ | refine blk_alloc ?_ _)); refine blk_put (cs := #[.int .i64 ((rd_T74 l0 x14_3).f0), .int .i64 ((rd_T74 l0 x14_3).f1), .int .i64 ((rd_T74 l0 x14_3).f2), .int .i64 0]) ?_ 3 _ rfl; (with_reducible repeat (first | refine blk_drewN ?_ _ | refine blk_drew ?_ | refine blk_alloc ?_ _)); refine blk_put (cs := #[.int .i64 ((rd_T74 l0 x14_3).f0), .int .i64 ((rd_T74 l0 x14_3).f1), .int .i64 0, .int .i64 0]) ?_ 2 _ rfl; (with_reducible repeat (first | refine blk_drewN ?_ _ | refine blk_drew ?_ | refine blk_alloc ?_ _)); refine blk_put (cs := #[.int .i64 ((rd_T74 l0 x14_3).f0), .int .i64 0, .int .i64 0, .int .i64 0]) ?_ 1 _ rfl; (with_reducible repeat (first | refine blk_drewN ?_ _ | refine blk_drew ?_ | refine blk_alloc ?_ _)); refine blk_put (cs := #[.int .i64 0, .int .i64 0, .int .i64 0, .int .i64 0]) ?_ 0 _ rfl; (with_reducible repeat (first | refine blk_drewN ?_ _ | refine blk_drew ?_ | refine blk_alloc ?_ _)); exact BK173.out⟩
                                            have n3_ : Aside0 (Below w.heap.size w ((((w49.setCell ⟨gb173, 0, none⟩ (.int .i64 ((rd_T74 l0 x14_3).f0))).setCell ⟨gb173, 1, none⟩ (.int .i64 ((rd_T74 l0 x14_3).f1))).setCell ⟨gb173, 2, none⟩ (.int .i64 ((rd_T74 l0 x14_3).f2))).setCell ⟨gb173, 3, none⟩ (.int .i64 ((rd_T74 l0 x14_3).f3)))) := ⟨by repeat (first | (with_reducible first | exact HB.out | apply below_alloc | apply pw_below_drewN | apply below_drew1 | refine below_set ?_ GE173.out) | exact HB.out)⟩
                                            (try clear HO_10)
                                            (try clear HO_11)
                                            (try clear BK173)
                                            (try clear HB)
                                            generalize ((((w49.setCell ⟨gb173, 0, none⟩ (.int .i64 ((rd_T74 l0 x14_3).f0))).setCell ⟨gb173, 1, none⟩ (.int .i64 ((rd_T74 l0 x14_3).f1))).setCell ⟨gb173, 2, none⟩ (.int .i64 ((rd_T74 l0 x14_3).f2))).setCell ⟨gb173, 3, none⟩ (.int .i64 ((rd_T74 l0 x14_3).f3))) = w51 at n0_ n1_ n2_ n3_ ⊢
                                            have HO_10 := n0_
                                            have HO_11 := n1_
                                            have BK173 := n2_
                                            have HB := n3_
                                            clear n0_ n1_ n2_ n3_
                                            have n0_ := Aside0.mk (Kd.R_drew HO_10.out)
                                            have n1_ := Aside0.mk (Kd.R_drew HO_11.out)
                                            have n2_ := Aside0.mk (blk_drew BK173.out)
                                            have n3_ := Aside0.mk (below_drew1 HB.out)
                                            clear HO_10
                                            clear HO_11
                                            clear BK173
                                            clear HB
                                            have HO_10 := n0_
                                            have HO_11 := n1_
                                            have BK173 := n2_
                                            have HB := n3_
                                            clear n0_ n1_ n2_ n3_
                                            have p174 : 0 ≤ (((rd_T74 l0 x14_3).f0) : Int) := of_decide_eq_true (by first | (with_reducible assumption) | assumption)
                                            have q174 : ((rd_T74 l0 x14_3).f0) < (x10_3.length : Int) := of_decide_eq_true (by first | (with_reducible assumption) | assumption)
                                            obtain ⟨ad174, e174, hx174_0⟩ := Kd.at_int (Kd.R_reads' HO_10.out).2.2 ((rd_T74 l0 x14_3).f0) p174 q174
                                            obtain rfl : (⟨go23, 0, none⟩ : Addr) = ad174 := (by injection e174)
                                            (first | simp only [add_plain] at hx174_0 | simp only [add_at] at hx174_0 | simp only [Addr.add, Nat.zero_add] at hx174_0 | skip)
                                            replace p174 := eq_true p174
                                            replace q174 := eq_true q174
                                            have p175 : 0 ≤ (((rd_T74 l0 x14_3).f0) : Int) := of_decide_eq_true (by first | (with_reducible assumption) | assumption)
                                            have q175 : ((rd_T74 l0 x14_3).f0) < (x10_3.length : Int) := of_decide_eq_true (by first | (with_reducible assumption) | assumption)
                                            obtain ⟨ad175, e175, hx175_0⟩ := Kd.at_int (Kd.R_reads' HO_10.out).2.2 ((rd_T74 l0 x14_3).f0) p175 q175
                                            obtain rfl : (⟨go23, 0, none⟩ : Addr) = ad175 := (by injection e175)
                                            (first | simp only [add_plain] at hx175_0 | simp only [add_at] at hx175_0 | simp only [Addr.add, Nat.zero_add] at hx175_0 | skip)
                                            replace p175 := eq_true p175
                                            replace q175 := eq_true q175
                                            have p176 : 0 ≤ (((rd_T74 l0 x14_3).f1) : Int) := of_decide_eq_true (by first | (with_reducible assumption) | assumption)
                                            have q176 : ((rd_T74 l0 x14_3).f1) < (x10_3.length : Int) := of_decide_eq_true (by first | (with_reducible assumption) | assumption)
                                            obtain ⟨ad176, e176, hx176_0⟩ := Kd.at_int (Kd.R_reads' HO_10.out).2.2 ((rd_T74 l0 x14_3).f1) p176 q176
                                            obtain rfl : (⟨go23, 0, none⟩ : Addr) = ad176 := (by injection e176)
                                            (first | simp only [add_plain] at hx176_0 | simp only [add_at] at hx176_0 | simp only [Addr.add, Nat.zero_add] at hx176_0 | skip)
                                            replace p176 := eq_true p176
                                            replace q176 := eq_true q176
                                            refine start_ (n := 27) (S := fun w' => w'.cell? ⟨gb173, 0, none⟩ = some (.int .i64 ((rd_T74 l0 x14_3).f0)) ∧ w'.cell? ⟨gb173, 1, none⟩ = some (.int .i64 ((rd_T74 l0 x14_3).f1)) ∧ w'.cell? ⟨gb173, 2, none⟩ = some (.int .i64 ((rd_T74 l0 x14_3).f2)) ∧ w'.cell? ⟨gb173, 3, none⟩ = some (.int .i64 ((rd_T74 l0 x14_3).f3)) ∧ w'.cell? ⟨go23, (((rd_T74 l0 x14_3).f0)).toNat, none⟩ = some (.int .i64 (rd x10_3 ((rd_T74 l0 x14_3).f0))) ∧ w'.cell? ⟨go23, (((rd_T74 l0 x14_3).f0)).toNat, none⟩ = some (.int .i64 (rd x10_3 ((rd_T74 l0 x14_3).f0))) ∧ w'.cell? ⟨go23, (((rd_T74 l0 x14_3).f1)).toNat, none⟩ = some (.int .i64 (rd x10_3 ((rd_T74 l0 x14_3).f1)))) (ds := []) #[false, false, false, false, false, false, false, false, false, false, false, false, false, false, false, false, false, false, false, false, false, false, false, false, false, false, false] (by kernel_rfl) rfl rfl ⟨(blk_cell BK173.out 0).trans rfl, (blk_cell BK173.out 1).trans rfl, (blk_cell BK173.out 2).trans rfl, (blk_cell BK173.out 3).trans rfl, hx174_0, hx175_0, hx176_0⟩ (fun hHeld => ?_); refine with_tabW turndownref08_shortest.tab16 turndownref08_shortest.bits16 (fun HT_ HW_ => ?_)
                                            generalize w51.drew = w52 at HO_10 HO_11 BK173 HB hx174_0 hx175_0 hx176_0 hHeld ⊢
                                            refine pure_ (i := 0) (N := some 49) (v := ?_) (a' := ?_) #[true, false, false, false, false, false, false, false, false, false, false, false, false, false, false, false, false, false, false, false, false, false, false, false, false, false, false] rfl rfl (any_of HT_.out (by kernel_rfl)) (fun _ _ _ h => h) (Or.inl ⟨by rfl, ?_⟩) ?_ ?_
                                            rotate_left
                                            · intro w'
                                              go_simp
                                              with_reducible rfl
                                            rotate_left
                                            · simp only [Act.put, List.setIfInBounds_toArray, List.set_cons_zero, List.set_cons_succ, i64_w, i32_w]
                                              rfl
                                            refine take_ (i := 1) (N := some 50) (v := ?_) (a' := ?_) #[true, true, false, false, false, false, false, false, false, false, false, false, false, false, false, false, false, false, false, false, false, false, false, false, false, false, false] rfl rfl (take_ofW HT_.out HW_.out (by kernel_rfl)) (fun _ _ _ h => h) (Or.inl ⟨by rfl, ?_⟩) hHeld ?_ ?_
                                            rotate_left
                                            · rintro w' ⟨s0, s1, s2, s3, s4, s5, s6⟩
                                              go_simp
                                              with_reducible rfl
                                            rotate_left
                                            · simp only [Act.put, List.setIfInBounds_toArray, List.set_cons_zero, List.set_cons_succ, i64_w, i32_w]
                                              rfl
                                            refine pure_ (i := 2) (N := some 51) (v := ?_) (a' := ?_) #[true, true, true, false, false, false, false, false, false, false, false, false, false, false, false, false, false, false, false, false, false, false, false, false, false, false, false] rfl rfl (any_of HT_.out (by kernel_rfl)) (fun _ _ _ h => h) (Or.inl ⟨by rfl, ?_⟩) ?_ ?_
                                            rotate_left
                                            · intro w'
                                              go_simp
                                              with_reducible rfl
                                            rotate_left
                                            · simp only [Act.put, List.setIfInBounds_toArray, List.set_cons_zero, List.set_cons_succ, i64_w, i32_w]
                                              rfl
                                            refine pure_ (i := 3) (N := some 52) (v := ?_) (a' := ?_) #[true, true, true, true, false, false, false, false, false, false, false, false, false, false, false, false, false, false, false, false, false, false, false, false, false, false, false] rfl rfl (any_of HT_.out (by kernel_rfl)) (fun _ _ _ h => h) (Or.inl ⟨by rfl, ?_⟩) ?_ ?_
                                            rotate_left
                                            · intro w'
                                              go_simp
                                              with_reducible rfl
                                            rotate_left
                                            · simp only [Act.put, List.setIfInBounds_toArray, List.set_cons_zero, List.set_cons_succ, i64_w, i32_w]
                                              rfl
                                            refine pure_ (i := 4) (N := some 53) (v := ?_) (a' := ?_) #[true, true, true, true, true, false, false, false, false, false, false, false, false, false, false, false, false, false, false, false, false, false, false, false, false, false, false] rfl rfl (any_of HT_.out (by kernel_rfl)) (fun _ _ _ h => h) (Or.inl ⟨by rfl, ?_⟩) ?_ ?_
                                            rotate_left
                                            · intro w'
                                              go_simp
                                              with_reducible rfl
                                            rotate_left
                                            · simp only [Act.put, List.setIfInBounds_toArray, List.set_cons_zero, List.set_cons_succ, i64_w, i32_w]
                                              rfl
                                            refine pure_ (i := 5) (N := some 54) (v := ?_) (a' := ?_) #[true, true, true, true, true, true, false, false, false, false, false, false, false, false, false, false, false, false, false, false, false, false, false, false, false, false, false] rfl rfl (any_of HT_.out (by kernel_rfl)) (fun _ _ _ h => h) (Or.inl ⟨by rfl, ?_⟩) ?_ ?_
                                            rotate_left
                                            · intro w'
                                              go_simp
                                              with_reducible rfl
                                            rotate_left
                                            · simp only [Act.put, List.setIfInBounds_toArray, List.set_cons_zero, List.set_cons_succ, i64_w, i32_w]
                                              rfl
                                            refine take_ (i := 6) (N := some 55) (v := ?_) (a' := ?_) #[true, true, true, true, true, true, true, false, false, false, false, false, false, false, false, false, false, false, false, false, false, false, false, false, false, false, false] rfl rfl (take_ofW HT_.out HW_.out (by kernel_rfl)) (fun _ _ _ h => h) (Or.inl ⟨by rfl, ?_⟩) hHeld ?_ ?_
                                            rotate_left
                                            · rintro w' ⟨s0, s1, s2, s3, s4, s5, s6⟩
                                              go_simp
                                              with_reducible rfl
                                            rotate_left
                                            · simp only [Act.put, List.setIfInBounds_toArray, List.set_cons_zero, List.set_cons_succ, i64_w, i32_w]
                                              rfl
                                            refine pure_ (i := 7) (N := some 56) (v := ?_) (a' := ?_) #[true, true, true, true, true, true, true, true, false, false, false, false, false, false, false, false, false, false, false, false, false, false, false, false, false, false, false] rfl rfl (any_of HT_.out (by kernel_rfl)) (fun _ _ _ h => h) (Or.inl ⟨by rfl, ?_⟩) ?_ ?_
                                            rotate_left
                                            · intro w'
                                              go_simp
                                              with_reducible rfl
                                            rotate_left
                                            · simp only [Act.put, List.setIfInBounds_toArray, List.set_cons_zero, List.set_cons_succ, i64_w, i32_w]
                                              rfl
                                            refine take_ (i := 8) (N := some 57) (v := ?_) (a' := ?_) #[true, true, true, true, true, true, true, true, true, false, false, false, false, false, false, false, false, false, false, false, false, false, false, false, false, false, false] rfl rfl (take_ofW HT_.out HW_.out (by kernel_rfl)) (fun _ _ _ h => h) (Or.inl ⟨by rfl, ?_⟩) hHeld ?_ ?_
                                            rotate_left
                                            · rintro w' ⟨s0, s1, s2, s3, s4, s5, s6⟩
                                              go_simp
                                              with_reducible rfl
                                            rotate_left
                                            · simp only [Act.put, List.setIfInBounds_toArray, List.set_cons_zero, List.set_cons_succ, i64_w, i32_w]
                                              rfl
                                            refine pure_ (i := 9) (N := some 58) (v := ?_) (a' := ?_) #[true, true, true, true, true, true, true, true, true, true, false, false, false, false, false, false, false, false, false, false, false, false, false, false, false, false, false] rfl rfl (any_of HT_.out (by kernel_rfl)) (fun _ _ _ h => h) (Or.inl ⟨by rfl, ?_⟩) ?_ ?_
                                            rotate_left
                                            · intro w'
                                              go_simp
                                              with_reducible rfl
                                            rotate_left
                                            · simp only [Act.put, List.setIfInBounds_toArray, List.set_cons_zero, List.set_cons_succ, i64_w, i32_w]
                                              rfl
                                            refine pure_ (i := 10) (N := some 59) (v := ?_) (a' := ?_) #[true, true, true, true, true, true, true, true, true, true, true, false, false, false, false, false, false, false, false, false, false, false, false, false, false, false, false] rfl rfl (any_of HT_.out (by kernel_rfl)) (fun _ _ _ h => h) (Or.inl ⟨by rfl, ?_⟩) ?_ ?_
                                            rotate_left
                                            · intro w'
                                              go_simp
                                              with_reducible rfl
                                            rotate_left
                                            · simp only [Act.put, List.setIfInBounds_toArray, List.set_cons_zero, List.set_cons_succ, i64_w, i32_w]
                                              rfl
                                            refine pure_ (i := 11) (N := some 60) (v := ?_) (a' := ?_) #[true, true, true, true, true, true, true, true, true, true, true, true, false, false, false, false, false, false, false, false, false, false, false, false, false, false, false] rfl rfl (any_of HT_.out (by kernel_rfl)) (fun _ _ _ h => h) (Or.inl ⟨by rfl, ?_⟩) ?_ ?_
                                            rotate_left
                                            · intro w'
                                              go_simp
                                              with_reducible rfl
                                            rotate_left
                                            · simp only [Act.put, List.setIfInBounds_toArray, List.set_cons_zero, List.set_cons_succ, i64_w, i32_w]
                                              rfl
                                            refine pure_ (i := 12) (N := some 61) (v := ?_) (a' := ?_) #[true, true, true, true, true, true, true, true, true, true, true, true, true, false, false, false, false, false, false, false, false, false, false, false, false, false, false] rfl rfl (any_of HT_.out (by kernel_rfl)) (fun _ _ _ h => h) (Or.inl ⟨by rfl, ?_⟩) ?_ ?_
                                            rotate_left
                                            · intro w'
                                              go_simp
                                              with_reducible rfl
                                            rotate_left
                                            · simp only [Act.put, List.setIfInBounds_toArray, List.set_cons_zero, List.set_cons_succ, i64_w, i32_w]
                                              rfl
                                            refine pure_ (i := 13) (N := some 62) (v := ?_) (a' := ?_) #[true, true, true, true, true, true, true, true, true, true, true, true, true, true, false, false, false, false, false, false, false, false, false, false, false, false, false] rfl rfl (any_of HT_.out (by kernel_rfl)) (fun _ _ _ h => h) (Or.inl ⟨by rfl, ?_⟩) ?_ ?_
                                            rotate_left
                                            · intro w'
                                              go_simp
                                              with_reducible rfl
                                            rotate_left
                                            · simp only [Act.put, List.setIfInBounds_toArray, List.set_cons_zero, List.set_cons_succ, i64_w, i32_w]
                                              rfl
                                            refine pure_ (i := 17) (N := some 66) (v := ?_) (a' := ?_) #[true, true, true, true, true, true, true, true, true, true, true, true, true, true, false, false, false, true, false, false, false, false, false, false, false, false, false] rfl rfl (any_of HT_.out (by kernel_rfl)) (fun _ _ _ h => h) (Or.inl ⟨by rfl, ?_⟩) ?_ ?_
                                            rotate_left
                                            · intro w'
                                              go_simp
                                              with_reducible rfl
                                            rotate_left
                                            · simp only [Act.put, List.setIfInBounds_toArray, List.set_cons_zero, List.set_cons_succ, i64_w, i32_w]
                                              rfl
                                            refine pure_ (i := 20) (N := some 69) (v := ?_) (a' := ?_) #[true, true, true, true, true, true, true, true, true, true, true, true, true, true, false, false, false, true, false, false, true, false, false, false, false, false, false] rfl rfl (any_of HT_.out (by kernel_rfl)) (fun _ _ _ h => h) (Or.inl ⟨by rfl, ?_⟩) ?_ ?_
                                            rotate_left
                                            · intro w'
                                              go_simp
                                              with_reducible rfl
                                            rotate_left
                                            · simp only [Act.put, List.setIfInBounds_toArray, List.set_cons_zero, List.set_cons_succ, i64_w, i32_w]
                                              rfl
                                            refine pure_ (i := 21) (N := some 70) (v := ?_) (a' := ?_) #[true, true, true, true, true, true, true, true, true, true, true, true, true, true, false, false, false, true, false, false, true, true, false, false, false, false, false] rfl rfl (any_of HT_.out (by kernel_rfl)) (fun _ _ _ h => h) (Or.inl ⟨by rfl, ?_⟩) ?_ ?_
                                            rotate_left
                                            · intro w'
                                              go_simp
                                              with_reducible rfl
                                            rotate_left
                                            · simp only [Act.put, List.setIfInBounds_toArray, List.set_cons_zero, List.set_cons_succ, i64_w, i32_w]
                                              rfl
                                            refine take_ (i := 14) (N := some 63) (v := ?_) (a' := ?_) #[true, true, true, true, true, true, true, true, true, true, true, true, true, true, true, false, false, true, false, false, true, true, false, false, false, false, false] rfl rfl (take_ofW HT_.out HW_.out (by kernel_rfl)) (fun _ _ _ h => h) (Or.inl ⟨by rfl, ?_⟩) hHeld ?_ ?_
                                            rotate_left
                                            · rintro w' ⟨s0, s1, s2, s3, s4, s5, s6⟩
                                              go_simp
                                              with_reducible rfl
                                            rotate_left
                                            · simp only [Act.put, List.setIfInBounds_toArray, List.set_cons_zero, List.set_cons_succ, i64_w, i32_w]
                                              rfl
                                            refine pure_ (i := 15) (N := some 64) (v := ?_) (a' := ?_) #[true, true, true, true, true, true, true, true, true, true, true, true, true, true, true, true, false, true, false, false, true, true, false, false, false, false, false] rfl rfl (any_of HT_.out (by kernel_rfl)) (fun _ _ _ h => h) (Or.inl ⟨by rfl, ?_⟩) ?_ ?_
                                            rotate_left
                                            · intro w'
                                              go_simp
                                              with_reducible rfl
                                            rotate_left
                                            · simp only [Act.put, List.setIfInBounds_toArray, List.set_cons_zero, List.set_cons_succ, i64_w, i32_w]
                                              rfl
                                            refine take_ (i := 16) (N := some 65) (v := ?_) (a' := ?_) #[true, true, true, true, true, true, true, true, true, true, true, true, true, true, true, true, true, true, false, false, true, true, false, false, false, false, false] rfl rfl (take_ofW HT_.out HW_.out (by kernel_rfl)) (fun _ _ _ h => h) (Or.inl ⟨by rfl, ?_⟩) hHeld ?_ ?_
                                            rotate_left
                                            · rintro w' ⟨s0, s1, s2, s3, s4, s5, s6⟩
                                              go_simp
                                              with_reducible rfl
                                            rotate_left
                                            · simp only [Act.put, List.setIfInBounds_toArray, List.set_cons_zero, List.set_cons_succ, i64_w, i32_w]
                                              rfl
                                            refine take_ (i := 18) (N := some 67) (v := ?_) (a' := ?_) #[true, true, true, true, true, true, true, true, true, true, true, true, true, true, true, true, true, true, true, false, true, true, false, false, false, false, false] rfl rfl (take_ofW HT_.out HW_.out (by kernel_rfl)) (fun _ _ _ h => h) (Or.inl ⟨by rfl, ?_⟩) hHeld ?_ ?_
                                            rotate_left
                                            · rintro w' ⟨s0, s1, s2, s3, s4, s5, s6⟩
                                              go_simp
                                              with_reducible rfl
                                            rotate_left
                                            · simp only [Act.put, List.setIfInBounds_toArray, List.set_cons_zero, List.set_cons_succ, i64_w, i32_w]
                                              rfl
                                            refine pure_ (i := 19) (N := some 68) (v := ?_) (a' := ?_) #[true, true, true, true, true, true, true, true, true, true, true, true, true, true, true, true, true, true, true, true, true, true, false, false, false, false, false] rfl rfl (any_of HT_.out (by kernel_rfl)) (fun _ _ _ h => h) (Or.inl ⟨by rfl, ?_⟩) ?_ ?_
                                            rotate_left
                                            · intro w'
                                              go_simp
                                              with_reducible rfl
                                            rotate_left
                                            · simp only [Act.put, List.setIfInBounds_toArray, List.set_cons_zero, List.set_cons_succ, i64_w, i32_w]
                                              rfl
                                            refine take_ (i := 22) (N := some 71) (v := ?_) (a' := ?_) #[true, true, true, true, true, true, true, true, true, true, true, true, true, true, true, true, true, true, true, true, true, true, true, false, false, false, false] rfl rfl (take_ofW HT_.out HW_.out (by kernel_rfl)) (fun _ _ _ h => h) (Or.inl ⟨by rfl, ?_⟩) hHeld ?_ ?_
                                            rotate_left
                                            · rintro w' ⟨s0, s1, s2, s3, s4, s5, s6⟩
                                              go_simp
                                              with_reducible rfl
                                            rotate_left
                                            · simp only [Act.put, List.setIfInBounds_toArray, List.set_cons_zero, List.set_cons_succ, i64_w, i32_w]
                                              rfl
                                            refine pure_ (i := 23) (N := some 72) (v := ?_) (a' := ?_) #[true, true, true, true, true, true, true, true, true, true, true, true, true, true, true, true, true, true, true, true, true, true, true, true, false, false, false] rfl rfl (any_of HT_.out (by kernel_rfl)) (fun _ _ _ h => h) (Or.inl ⟨by rfl, ?_⟩) ?_ ?_
                                            rotate_left
                                            · intro w'
                                              go_simp
                                              with_reducible rfl
                                            rotate_left
                                            · simp only [Act.put, List.setIfInBounds_toArray, List.set_cons_zero, List.set_cons_succ, i64_w, i32_w]
                                              rfl
                                            refine take_ (i := 24) (N := some 73) (v := ?_) (a' := ?_) #[true, true, true, true, true, true, true, true, true, true, true, true, true, true, true, true, true, true, true, true, true, true, true, true, true, false, false] rfl rfl (take_ofW HT_.out HW_.out (by kernel_rfl)) (fun _ _ _ h => h) (Or.inl ⟨by rfl, ?_⟩) hHeld ?_ ?_
                                            rotate_left
                                            · rintro w' ⟨s0, s1, s2, s3, s4, s5, s6⟩
                                              go_simp
                                              with_reducible rfl
                                            rotate_left
                                            · simp only [Act.put, List.setIfInBounds_toArray, List.set_cons_zero, List.set_cons_succ, i64_w, i32_w]
                                              rfl
                                            refine pure_ (i := 25) (N := some 74) (v := ?_) (a' := ?_) #[true, true, true, true, true, true, true, true, true, true, true, true, true, true, true, true, true, true, true, true, true, true, true, true, true, true, false] rfl rfl (any_of HT_.out (by kernel_rfl)) (fun _ _ _ h => h) (Or.inl ⟨by rfl, ?_⟩) ?_ ?_
                                            rotate_left
                                            · intro w'
                                              go_simp
                                              with_reducible rfl
                                            rotate_left
                                            · simp only [Act.put, List.setIfInBounds_toArray, List.set_cons_zero, List.set_cons_succ, i64_w, i32_w]
                                              rfl
                                            refine pure_ (i := 26) (N := some 75) (v := ?_) (a' := ?_) #[true, true, true, true, true, true, true, true, true, true, true, true, true, true, true, true, true, true, true, true, true, true, true, true, true, true, true] rfl rfl (any_of HT_.out (by kernel_rfl)) (fun _ _ _ h => h) (Or.inl ⟨by rfl, ?_⟩) ?_ ?_
                                            rotate_left
                                            · intro w'
                                              go_simp
                                              with_reducible rfl
                                            rotate_left
                                            · simp only [Act.put, List.setIfInBounds_toArray, List.set_cons_zero, List.set_cons_succ, i64_w, i32_w]
                                              rfl
                                            refine done_ (done_of HT_.out (by kernel_rfl)) ?_
                                            try go_wp2
                                            (try simp only [← hl10_3])
                                            go_roundg k3
                                            case measure => have := HK1.out; have := HK2.out; have := HK3.out; omega
                                            case rel => exact ⟨(x10_3), (x11_3), (x13_3), (wrap64 (x14_3 + 1)), (by first | rfl | (simp; done) | (simp [*]; done)), (by first | rfl | (simp; done) | (simp [*]; done)), H', ⟨by have := HK1.out; have := HK2.out; have := HK3.out; omega⟩, ⟨by (try simp only [hl10_2]); (try simp only [hl10_3]); (with_reducible repeat (first | apply Kd.R_alloc | apply Kd.R_drewN | apply Kd.R_drew)); exact HO_10.out⟩, ⟨by (try simp only [hl10_2]); (try simp only [hl10_3]); (with_reducible repeat (first | apply Kd.R_alloc | apply Kd.R_drewN | apply Kd.R_drew)); exact HO_11.out⟩, ⟨by repeat (first | (with_reducible first | exact HB.out | apply below_alloc | apply pw_below_drewN | apply below_drew1 | refine below_set ?_ GE173.out) | exact HB.out)⟩⟩
                                        · rw [if_neg c34] at H
                                          exact absurd H (by simp)
                                      · rw [if_neg c33] at H
                                        exact absurd H (by simp)
                                    · rw [if_neg c32] at H
                                      have c32b0 : decide ((rd x10_3 ((rd_T74 l0 x14_3).f0)) < 1152921504606846976) = false := decide_eq_false c32
                                      clear c32
                                      have H' := Aside0.mk H
                                      clear H
                                      have p172 : 0 ≤ (x14_3 : Int) := of_decide_eq_true (by first | (with_reducible assumption) | assumption)
                                      have q172 : x14_3 < (l0.length : Int) := of_decide_eq_true (by first | (with_reducible assumption) | assumption)
                                      obtain ⟨ad172, e172, hx172_0, hx172_1, hx172_2, hx172_3⟩ := at_T74 HR0.out x14_3 p172 q172
                                      cases e172
                                      replace hx172_0 := (HB.out.cell (World.block_lt_of_cell? w _ hx172_0)).trans hx172_0
                                      replace hx172_1 := (HB.out.cell (World.block_lt_of_cell? w _ hx172_1)).trans hx172_1
                                      replace hx172_2 := (HB.out.cell (World.block_lt_of_cell? w _ hx172_2)).trans hx172_2
                                      replace hx172_3 := (HB.out.cell (World.block_lt_of_cell? w _ hx172_3)).trans hx172_3
                                      replace p172 := eq_true p172
                                      replace q172 := eq_true q172
                                      try go_wp2_with (first | ((with_reducible refine gate_dst (N := 15) rfl ?_); refine box_event ?hg (N := 15) ?hd (cs := #[.int .i64 0, .int .i64 0, .int .i64 0, .int .i64 0]) (t := 74) ?hr ?_; (case hd => rfl); (case hg => rfl); (case hr => first | (go_simp; done) | (go_simp; rfl)); intro gb173 hg w53 hbox hb; have n0_ := Aside0.mk (Kd.R_below (by (with_reducible repeat (first | apply Kd.R_alloc | apply Kd.R_drewN | apply Kd.R_drew)); exact HO_10.out) hb); have n1_ := Aside0.mk (Kd.R_below (by (with_reducible repeat (first | apply Kd.R_alloc | apply Kd.R_drewN | apply Kd.R_drew)); exact HO_11.out) hb); have n2_ := Aside0.mk (below_step (by repeat (first | (with_reducible first | exact HB.out | apply below_alloc | apply pw_below_drewN | apply below_drew1) | exact HB.out)) hb); have n3_ := Aside0.mk (hbox); have n4_ := Aside0.mk ((by rw [hg]; exact (below_size (by repeat (first | (with_reducible first | exact HB.out | apply below_alloc | apply pw_below_drewN | apply below_drew1) | exact HB.out))) : w.heap.size ≤ gb173)); have n5_ := Aside0.mk ((by rw [hg]; exact (below_size (by repeat (first | (with_reducible first | exact HB.out | apply below_alloc | apply pw_below_drewN | apply below_drew1) | exact HB.out))) : w.heap.size ≤ gb173)); clear HO_10; clear HO_11; clear HB; have HO_10 := n0_; have HO_11 := n1_; have HB := n2_; have BK173 := n3_; have GW173 := n4_; have GE173 := n5_; clear n0_ n1_ n2_ n3_ n4_ n5_; clear hb hbox hg; have hcz54_0 : w53.cell? ⟨gb173, 0, none⟩ = some (.int .i64 0) := (blk_cell BK173.out 0).trans rfl; have hcz54_1 : w53.cell? ⟨gb173, 1, none⟩ = some (.int .i64 0) := (blk_cell BK173.out 1).trans rfl; have hcz54_2 : w53.cell? ⟨gb173, 2, none⟩ = some (.int .i64 0) := (blk_cell BK173.out 2).trans rfl; have hcz54_3 : w53.cell? ⟨gb173, 3, none⟩ = some (.int .i64 0) := (blk_cell BK173.out 3).trans rfl; have hfz54_0 := blk_frozen BK173.out 0; have hfz54_1 := blk_frozen BK173.out 1; have hfz54_2 := blk_frozen BK173.out 2; have hfz54_3 := blk_frozen BK173.out 3))
                                      have n0_ : Aside0 (Kd.R (Kd.int .i64) 3 ((((w53.setCell ⟨gb173, 0, none⟩ (.int .i64 ((rd_T74 l0 x14_3).f0))).setCell ⟨gb173, 1, none⟩ (.int .i64 ((rd_T74 l0 x14_3).f1))).setCell ⟨gb173, 2, none⟩ (.int .i64 ((rd_T74 l0 x14_3).f2))).setCell ⟨gb173, 3, none⟩ (.int .i64 ((rd_T74 l0 x14_3).f3))) w.heap.size (fun k_ => some k_ ≠ (v167 : Value).ownBlock) (.slice (some ⟨go23, 0, none⟩) x10_3.length co23) x10_3) := ⟨by (with_reducible repeat (first | apply Kd.R_alloc | apply Kd.R_drewN | apply Kd.R_drew)); exact Kd.R_mono (Kd.R_far (p := ⟨gb173, 3, none⟩) (Kd.R_far (p := ⟨gb173, 2, none⟩) (Kd.R_far (p := ⟨gb173, 1, none⟩) (Kd.R_far (p := ⟨gb173, 0, none⟩) (Kd.R_types HO_10.out BK173.out (by decide)) (fun _ hk => hk.2) (.int .i64 ((rd_T74 l0 x14_3).f0))) (fun _ hk => hk.2) (.int .i64 ((rd_T74 l0 x14_3).f1))) (fun _ hk => hk.2) (.int .i64 ((rd_T74 l0 x14_3).f2))) (fun _ hk => hk.2) (.int .i64 ((rd_T74 l0 x14_3).f3))) (fun _ hk => hk.1)⟩
                                      have n1_ : Aside0 (Kd.R (Kd.int .i64) 3 ((((w53.setCell ⟨gb173, 0, none⟩ (.int .i64 ((rd_T74 l0 x14_3).f0))).setCell ⟨gb173, 1, none⟩ (.int .i64 ((rd_T74 l0 x14_3).f1))).setCell ⟨gb173, 2, none⟩ (.int .i64 ((rd_T74 l0 x14_3).f2))).setCell ⟨gb173, 3, none⟩ (.int .i64 ((rd_T74 l0 x14_3).f3))) w.heap.size (fun k_ => some k_ ≠ (.slice (some ⟨go23, 0, none⟩) x10_3.length co23 : Value).ownBlock) v167 x11_3) := ⟨by (with_reducible repeat (first | apply Kd.R_alloc | apply Kd.R_drewN | apply Kd.R_drew)); exact Kd.R_mono (Kd.R_far (p := ⟨gb173, 3, none⟩) (Kd.R_far (p := ⟨gb173, 2, none⟩) (Kd.R_far (p := ⟨gb173, 1, none⟩) (Kd.R_far (p := ⟨gb173, 0, none⟩) (Kd.R_types HO_11.out BK173.out (by decide)) (fun _ hk => hk.2) (.int .i64 ((rd_T74 l0 x14_3).f0))) (fun _ hk => hk.2) (.int .i64 ((rd_T74 l0 x14_3).f1))) (fun _ hk => hk.2) (.int .i64 ((rd_T74 l0 x14_3).f2))) (fun _ hk => hk.2) (.int .i64 ((rd_T74 l0 x14_3).f3))) (fun _ hk => hk.1)⟩
                                      have n2_ : Aside0 (((((w53.setCell ⟨gb173, 0, none⟩ (.int .i64 ((rd_T74 l0 x14_3).f0))).setCell ⟨gb173, 1, none⟩ (.int .i64 ((rd_T74 l0 x14_3).f1))).setCell ⟨gb173, 2, none⟩ (.int .i64 ((rd_T74 l0 x14_3).f2))).setCell ⟨gb173, 3, none⟩ (.int .i64 ((rd_T74 l0 x14_3).f3))).heap[gb173]? = some (.cells #[.int .i64 ((rd_T74 l0 x14_3).f0), .int .i64 ((rd_T74 l0 x14_3).f1), .int .i64 ((rd_T74 l0 x14_3).f2), .int .i64 ((rd_T74 l0 x14_3).f3)] 74 (0, 0))) := ⟨by (with_reducible repeat (first | refine blk_drewN ?_ _ | refine blk_drew ?_ | refine blk_alloc ?_ _)); refine blk_put (cs := #[.int .i64 ((rd_T74 l0 x14_3).f0), .int .i64 ((rd_T74 l0 x14_3).f1), .int .i64 ((rd_T74 l0 x14_3).f2), .int .i64 0]) ?_ 3 _ rfl; (with_reducible repeat (first | refine blk_drewN ?_ _ | refine blk_drew ?_ | refine blk_alloc ?_ _)); refine blk_put (cs := #[.int .i64 ((rd_T74 l0 x14_3).f0), .int .i64 ((rd_T74 l0 x14_3).f1), .int .i64 0, .int .i64 0]) ?_ 2 _ rfl; (with_reducible repeat (first | refine blk_drewN ?_ _ | refine blk_drew ?_ | refine blk_alloc ?_ _)); refine blk_put (cs := #[.int .i64 ((rd_T74 l0 x14_3).f0), .int .i64 0, .int .i64 0, .int .i64 0]) ?_ 1 _ rfl; (with_reducible repeat (first | refine blk_drewN ?_ _ | refine blk_drew ?_ | refine blk_alloc ?_ _)); refine blk_put (cs := #[.int .i64 0, .int .i64 0, .int .i64 0, .int .i64 0]) ?_ 0 _ rfl; (with_reducible repeat (first | refine blk_drewN ?_ _ | refine blk_drew ?_ | refine blk_alloc ?_ _)); exact BK173.out⟩
                                      have n3_ : Aside0 (Below w.heap.size w ((((w53.setCell ⟨gb173, 0, none⟩ (.int .i64 ((rd_T74 l0 x14_3).f0))).setCell ⟨gb173, 1, none⟩ (.int .i64 ((rd_T74 l0 x14_3).f1))).setCell ⟨gb173, 2, none⟩ (.int .i64 ((rd_T74 l0 x14_3).f2))).setCell ⟨gb173, 3, none⟩ (.int .i64 ((rd_T74 l0 x14_3).f3)))) := ⟨by repeat (first | (with_reducible first | exact HB.out | apply below_alloc | apply pw_below_drewN | apply below_drew1 | refine below_set ?_ GE173.out) | exact HB.out)⟩
                                      (try clear HO_10)
                                      (try clear HO_11)
                                      (try clear BK173)
                                      (try clear HB)
                                      generalize ((((w53.setCell ⟨gb173, 0, none⟩ (.int .i64 ((rd_T74 l0 x14_3).f0))).setCell ⟨gb173, 1, none⟩ (.int .i64 ((rd_T74 l0 x14_3).f1))).setCell ⟨gb173, 2, none⟩ (.int .i64 ((rd_T74 l0 x14_3).f2))).setCell ⟨gb173, 3, none⟩ (.int .i64 ((rd_T74 l0 x14_3).f3))) = w55 at n0_ n1_ n2_ n3_ ⊢
                                      have HO_10 := n0_
                                      have HO_11 := n1_
                                      have BK173 := n2_
                                      have HB := n3_
                                      clear n0_ n1_ n2_ n3_
                                      have n0_ := Aside0.mk (Kd.R_drew HO_10.out)
                                      have n1_ := Aside0.mk (Kd.R_drew HO_11.out)
                                      have n2_ := Aside0.mk (blk_drew BK173.out)
                                      have n3_ := Aside0.mk (below_drew1 HB.out)
                                      clear HO_10
                                      clear HO_11
                                      clear BK173
                                      clear HB
                                      have HO_10 := n0_
                                      have HO_11 := n1_
                                      have BK173 := n2_
                                      have HB := n3_
                                      clear n0_ n1_ n2_ n3_
                                      have p174 : 0 ≤ (((rd_T74 l0 x14_3).f0) : Int) := of_decide_eq_true (by first | (with_reducible assumption) | assumption)
                                      have q174 : ((rd_T74 l0 x14_3).f0) < (x10_3.length : Int) := of_decide_eq_true (by first | (with_reducible assumption) | assumption)
                                      obtain ⟨ad174, e174, hx174_0⟩ := Kd.at_int (Kd.R_reads' HO_10.out).2.2 ((rd_T74 l0 x14_3).f0) p174 q174
                                      obtain rfl : (⟨go23, 0, none⟩ : Addr) = ad174 := (by injection e174)
                                      (first | simp only [add_plain] at hx174_0 | simp only [add_at] at hx174_0 | simp only [Addr.add, Nat.zero_add] at hx174_0 | skip)
                                      replace p174 := eq_true p174
                                      replace q174 := eq_true q174
                                      refine start_ (n := 27) (S := fun w' => w'.cell? ⟨gb173, 0, none⟩ = some (.int .i64 ((rd_T74 l0 x14_3).f0)) ∧ w'.cell? ⟨gb173, 1, none⟩ = some (.int .i64 ((rd_T74 l0 x14_3).f1)) ∧ w'.cell? ⟨gb173, 2, none⟩ = some (.int .i64 ((rd_T74 l0 x14_3).f2)) ∧ w'.cell? ⟨gb173, 3, none⟩ = some (.int .i64 ((rd_T74 l0 x14_3).f3)) ∧ w'.cell? ⟨go23, (((rd_T74 l0 x14_3).f0)).toNat, none⟩ = some (.int .i64 (rd x10_3 ((rd_T74 l0 x14_3).f0)))) (ds := []) #[false, false, false, false, false, false, false, false, false, false, false, false, false, false, false, false, false, false, false, false, false, false, false, false, false, false, false] (by kernel_rfl) rfl rfl ⟨(blk_cell BK173.out 0).trans rfl, (blk_cell BK173.out 1).trans rfl, (blk_cell BK173.out 2).trans rfl, (blk_cell BK173.out 3).trans rfl, hx174_0⟩ (fun hHeld => ?_); refine with_tabW turndownref08_shortest.tab16 turndownref08_shortest.bits16 (fun HT_ HW_ => ?_)
                                      generalize w55.drew = w56 at HO_10 HO_11 BK173 HB hx174_0 hHeld ⊢
                                      refine pure_ (i := 0) (N := some 49) (v := ?_) (a' := ?_) #[true, false, false, false, false, false, false, false, false, false, false, false, false, false, false, false, false, false, false, false, false, false, false, false, false, false, false] rfl rfl (any_of HT_.out (by kernel_rfl)) (fun _ _ _ h => h) (Or.inl ⟨by rfl, ?_⟩) ?_ ?_
                                      rotate_left
                                      · intro w'
                                        go_simp
                                        with_reducible rfl
                                      rotate_left
                                      · simp only [Act.put, List.setIfInBounds_toArray, List.set_cons_zero, List.set_cons_succ, i64_w, i32_w]
                                        rfl
                                      refine take_ (i := 1) (N := some 50) (v := ?_) (a' := ?_) #[true, true, false, false, false, false, false, false, false, false, false, false, false, false, false, false, false, false, false, false, false, false, false, false, false, false, false] rfl rfl (take_ofW HT_.out HW_.out (by kernel_rfl)) (fun _ _ _ h => h) (Or.inl ⟨by rfl, ?_⟩) hHeld ?_ ?_
                                      rotate_left
                                      · rintro w' ⟨s0, s1, s2, s3, s4⟩
                                        go_simp
                                        with_reducible rfl
                                      rotate_left
                                      · simp only [Act.put, List.setIfInBounds_toArray, List.set_cons_zero, List.set_cons_succ, i64_w, i32_w]
                                        rfl
                                      refine pure_ (i := 2) (N := some 51) (v := ?_) (a' := ?_) #[true, true, true, false, false, false, false, false, false, false, false, false, false, false, false, false, false, false, false, false, false, false, false, false, false, false, false] rfl rfl (any_of HT_.out (by kernel_rfl)) (fun _ _ _ h => h) (Or.inl ⟨by rfl, ?_⟩) ?_ ?_
                                      rotate_left
                                      · intro w'
                                        go_simp
                                        with_reducible rfl
                                      rotate_left
                                      · simp only [Act.put, List.setIfInBounds_toArray, List.set_cons_zero, List.set_cons_succ, i64_w, i32_w]
                                        rfl
                                      refine pure_ (i := 3) (N := some 52) (v := ?_) (a' := ?_) #[true, true, true, true, false, false, false, false, false, false, false, false, false, false, false, false, false, false, false, false, false, false, false, false, false, false, false] rfl rfl (any_of HT_.out (by kernel_rfl)) (fun _ _ _ h => h) (Or.inl ⟨by rfl, ?_⟩) ?_ ?_
                                      rotate_left
                                      · intro w'
                                        go_simp
                                        with_reducible rfl
                                      rotate_left
                                      · simp only [Act.put, List.setIfInBounds_toArray, List.set_cons_zero, List.set_cons_succ, i64_w, i32_w]
                                        rfl
                                      refine pure_ (i := 4) (N := some 53) (v := ?_) (a' := ?_) #[true, true, true, true, true, false, false, false, false, false, false, false, false, false, false, false, false, false, false, false, false, false, false, false, false, false, false] rfl rfl (any_of HT_.out (by kernel_rfl)) (fun _ _ _ h => h) (Or.inl ⟨by rfl, ?_⟩) ?_ ?_
                                      rotate_left
                                      · intro w'
                                        go_simp
                                        with_reducible rfl
                                      rotate_left
                                      · simp only [Act.put, List.setIfInBounds_toArray, List.set_cons_zero, List.set_cons_succ, i64_w, i32_w]
                                        rfl
                                      refine pure_ (i := 5) (N := some 54) (v := ?_) (a' := ?_) #[true, true, true, true, true, true, false, false, false, false, false, false, false, false, false, false, false, false, false, false, false, false, false, false, false, false, false] rfl rfl (any_of HT_.out (by kernel_rfl)) (fun _ _ _ h => h) (Or.inl ⟨by rfl, ?_⟩) ?_ ?_
                                      rotate_left
                                      · intro w'
                                        go_simp
                                        with_reducible rfl
                                      rotate_left
                                      · simp only [Act.put, List.setIfInBounds_toArray, List.set_cons_zero, List.set_cons_succ, i64_w, i32_w]
                                        rfl
                                      refine take_ (i := 6) (N := some 55) (v := ?_) (a' := ?_) #[true, true, true, true, true, true, true, false, false, false, false, false, false, false, false, false, false, false, false, false, false, false, false, false, false, false, false] rfl rfl (take_ofW HT_.out HW_.out (by kernel_rfl)) (fun _ _ _ h => h) (Or.inl ⟨by rfl, ?_⟩) hHeld ?_ ?_
                                      rotate_left
                                      · rintro w' ⟨s0, s1, s2, s3, s4⟩
                                        go_simp
                                        with_reducible rfl
                                      rotate_left
                                      · simp only [Act.put, List.setIfInBounds_toArray, List.set_cons_zero, List.set_cons_succ, i64_w, i32_w]
                                        rfl
                                      refine pure_ (i := 7) (N := some 56) (v := ?_) (a' := ?_) #[true, true, true, true, true, true, true, true, false, false, false, false, false, false, false, false, false, false, false, false, false, false, false, false, false, false, false] rfl rfl (any_of HT_.out (by kernel_rfl)) (fun _ _ _ h => h) (Or.inl ⟨by rfl, ?_⟩) ?_ ?_
                                      rotate_left
                                      · intro w'
                                        go_simp
                                        with_reducible rfl
                                      rotate_left
                                      · simp only [Act.put, List.setIfInBounds_toArray, List.set_cons_zero, List.set_cons_succ, i64_w, i32_w]
                                        rfl
                                      refine take_ (i := 8) (N := some 57) (v := ?_) (a' := ?_) #[true, true, true, true, true, true, true, true, true, false, false, false, false, false, false, false, false, false, false, false, false, false, false, false, false, false, false] rfl rfl (take_ofW HT_.out HW_.out (by kernel_rfl)) (fun _ _ _ h => h) (Or.inl ⟨by rfl, ?_⟩) hHeld ?_ ?_
                                      rotate_left
                                      · rintro w' ⟨s0, s1, s2, s3, s4⟩
                                        go_simp
                                        with_reducible rfl
                                      rotate_left
                                      · simp only [Act.put, List.setIfInBounds_toArray, List.set_cons_zero, List.set_cons_succ, i64_w, i32_w]
                                        rfl
                                      refine pure_ (i := 9) (N := some 58) (v := ?_) (a' := ?_) #[true, true, true, true, true, true, true, true, true, true, false, false, false, false, false, false, false, false, false, false, false, false, false, false, false, false, false] rfl rfl (any_of HT_.out (by kernel_rfl)) (fun _ _ _ h => h) (Or.inl ⟨by rfl, ?_⟩) ?_ ?_
                                      rotate_left
                                      · intro w'
                                        go_simp
                                        with_reducible rfl
                                      rotate_left
                                      · simp only [Act.put, List.setIfInBounds_toArray, List.set_cons_zero, List.set_cons_succ, i64_w, i32_w]
                                        rfl
                                      refine pure_ (i := 10) (N := some 59) (v := ?_) (a' := ?_) #[true, true, true, true, true, true, true, true, true, true, true, false, false, false, false, false, false, false, false, false, false, false, false, false, false, false, false] rfl rfl (any_of HT_.out (by kernel_rfl)) (fun _ _ _ h => h) (Or.inl ⟨by rfl, ?_⟩) ?_ ?_
                                      rotate_left
                                      · intro w'
                                        go_simp
                                        with_reducible rfl
                                      rotate_left
                                      · simp only [Act.put, List.setIfInBounds_toArray, List.set_cons_zero, List.set_cons_succ, i64_w, i32_w]
                                        rfl
                                      refine pure_ (i := 11) (N := some 60) (v := ?_) (a' := ?_) #[true, true, true, true, true, true, true, true, true, true, true, true, false, false, false, false, false, false, false, false, false, false, false, false, false, false, false] rfl rfl (any_of HT_.out (by kernel_rfl)) (fun _ _ _ h => h) (Or.inl ⟨by rfl, ?_⟩) ?_ ?_
                                      rotate_left
                                      · intro w'
                                        go_simp
                                        with_reducible rfl
                                      rotate_left
                                      · simp only [Act.put, List.setIfInBounds_toArray, List.set_cons_zero, List.set_cons_succ, i64_w, i32_w]
                                        rfl
                                      refine pure_ (i := 12) (N := some 61) (v := undef) (a' := ?_) #[true, true, true, true, true, true, true, true, true, true, true, true, true, false, false, false, false, false, false, false, false, false, false, false, false, false, false] rfl rfl (any_of HT_.out (by kernel_rfl)) (fun _ _ _ h => h) (Or.inr ⟨by rfl, rfl⟩) ?_ ?_
                                      rotate_left
                                      · simp only [Act.put, List.setIfInBounds_toArray, List.set_cons_zero, List.set_cons_succ, i64_w, i32_w]
                                        rfl
                                      refine pure_ (i := 13) (N := some 62) (v := undef) (a' := ?_) #[true, true, true, true, true, true, true, true, true, true, true, true, true, true, false, false, false, false, false, false, false, false, false, false, false, false, false] rfl rfl (any_of HT_.out (by kernel_rfl)) (fun _ _ _ h => h) (Or.inr ⟨by rfl, rfl⟩) ?_ ?_
                                      rotate_left
                                      · simp only [Act.put, List.setIfInBounds_toArray, List.set_cons_zero, List.set_cons_succ, i64_w, i32_w]
                                        rfl
                                      refine pure_ (i := 14) (N := some 63) (v := undef) (a' := ?_) #[true, true, true, true, true, true, true, true, true, true, true, true, true, true, true, false, false, false, false, false, false, false, false, false, false, false, false] rfl rfl (any_of HT_.out (by kernel_rfl)) (fun _ _ _ h => h) (Or.inr ⟨by rfl, rfl⟩) ?_ ?_
                                      rotate_left
                                      · simp only [Act.put, List.setIfInBounds_toArray, List.set_cons_zero, List.set_cons_succ, i64_w, i32_w]
                                        rfl
                                      refine pure_ (i := 15) (N := some 64) (v := undef) (a' := ?_) #[true, true, true, true, true, true, true, true, true, true, true, true, true, true, true, true, false, false, false, false, false, false, false, false, false, false, false] rfl rfl (any_of HT_.out (by kernel_rfl)) (fun _ _ _ h => h) (Or.inr ⟨by rfl, rfl⟩) ?_ ?_
                                      rotate_left
                                      · simp only [Act.put, List.setIfInBounds_toArray, List.set_cons_zero, List.set_cons_succ, i64_w, i32_w]
                                        rfl
                                      refine pure_ (i := 16) (N := some 65) (v := undef) (a' := ?_) #[true, true, true, true, true, true, true, true, true, true, true, true, true, true, true, true, true, false, false, false, false, false, false, false, false, false, false] rfl rfl (any_of HT_.out (by kernel_rfl)) (fun _ _ _ h => h) (Or.inr ⟨by rfl, rfl⟩) ?_ ?_
                                      rotate_left
                                      · simp only [Act.put, List.setIfInBounds_toArray, List.set_cons_zero, List.set_cons_succ, i64_w, i32_w]
                                        rfl
                                      refine pure_ (i := 17) (N := some 66) (v := undef) (a' := ?_) #[true, true, true, true, true, true, true, true, true, true, true, true, true, true, true, true, true, true, false, false, false, false, false, false, false, false, false] rfl rfl (any_of HT_.out (by kernel_rfl)) (fun _ _ _ h => h) (Or.inr ⟨by rfl, rfl⟩) ?_ ?_
                                      rotate_left
                                      · simp only [Act.put, List.setIfInBounds_toArray, List.set_cons_zero, List.set_cons_succ, i64_w, i32_w]
                                        rfl
                                      refine pure_ (i := 18) (N := some 67) (v := undef) (a' := ?_) #[true, true, true, true, true, true, true, true, true, true, true, true, true, true, true, true, true, true, true, false, false, false, false, false, false, false, false] rfl rfl (any_of HT_.out (by kernel_rfl)) (fun _ _ _ h => h) (Or.inr ⟨by rfl, rfl⟩) ?_ ?_
                                      rotate_left
                                      · simp only [Act.put, List.setIfInBounds_toArray, List.set_cons_zero, List.set_cons_succ, i64_w, i32_w]
                                        rfl
                                      refine pure_ (i := 19) (N := some 68) (v := undef) (a' := ?_) #[true, true, true, true, true, true, true, true, true, true, true, true, true, true, true, true, true, true, true, true, false, false, false, false, false, false, false] rfl rfl (any_of HT_.out (by kernel_rfl)) (fun _ _ _ h => h) (Or.inr ⟨by rfl, rfl⟩) ?_ ?_
                                      rotate_left
                                      · simp only [Act.put, List.setIfInBounds_toArray, List.set_cons_zero, List.set_cons_succ, i64_w, i32_w]
                                        rfl
                                      refine pure_ (i := 20) (N := some 69) (v := undef) (a' := ?_) #[true, true, true, true, true, true, true, true, true, true, true, true, true, true, true, true, true, true, true, true, true, false, false, false, false, false, false] rfl rfl (any_of HT_.out (by kernel_rfl)) (fun _ _ _ h => h) (Or.inr ⟨by rfl, rfl⟩) ?_ ?_
                                      rotate_left
                                      · simp only [Act.put, List.setIfInBounds_toArray, List.set_cons_zero, List.set_cons_succ, i64_w, i32_w]
                                        rfl
                                      refine pure_ (i := 21) (N := some 70) (v := undef) (a' := ?_) #[true, true, true, true, true, true, true, true, true, true, true, true, true, true, true, true, true, true, true, true, true, true, false, false, false, false, false] rfl rfl (any_of HT_.out (by kernel_rfl)) (fun _ _ _ h => h) (Or.inr ⟨by rfl, rfl⟩) ?_ ?_
                                      rotate_left
                                      · simp only [Act.put, List.setIfInBounds_toArray, List.set_cons_zero, List.set_cons_succ, i64_w, i32_w]
                                        rfl
                                      refine pure_ (i := 22) (N := some 71) (v := undef) (a' := ?_) #[true, true, true, true, true, true, true, true, true, true, true, true, true, true, true, true, true, true, true, true, true, true, true, false, false, false, false] rfl rfl (any_of HT_.out (by kernel_rfl)) (fun _ _ _ h => h) (Or.inr ⟨by rfl, rfl⟩) ?_ ?_
                                      rotate_left
                                      · simp only [Act.put, List.setIfInBounds_toArray, List.set_cons_zero, List.set_cons_succ, i64_w, i32_w]
                                        rfl
                                      refine pure_ (i := 23) (N := some 72) (v := undef) (a' := ?_) #[true, true, true, true, true, true, true, true, true, true, true, true, true, true, true, true, true, true, true, true, true, true, true, true, false, false, false] rfl rfl (any_of HT_.out (by kernel_rfl)) (fun _ _ _ h => h) (Or.inr ⟨by rfl, rfl⟩) ?_ ?_
                                      rotate_left
                                      · simp only [Act.put, List.setIfInBounds_toArray, List.set_cons_zero, List.set_cons_succ, i64_w, i32_w]
                                        rfl
                                      refine pure_ (i := 24) (N := some 73) (v := undef) (a' := ?_) #[true, true, true, true, true, true, true, true, true, true, true, true, true, true, true, true, true, true, true, true, true, true, true, true, true, false, false] rfl rfl (any_of HT_.out (by kernel_rfl)) (fun _ _ _ h => h) (Or.inr ⟨by rfl, rfl⟩) ?_ ?_
                                      rotate_left
                                      · simp only [Act.put, List.setIfInBounds_toArray, List.set_cons_zero, List.set_cons_succ, i64_w, i32_w]
                                        rfl
                                      refine pure_ (i := 25) (N := some 74) (v := undef) (a' := ?_) #[true, true, true, true, true, true, true, true, true, true, true, true, true, true, true, true, true, true, true, true, true, true, true, true, true, true, false] rfl rfl (any_of HT_.out (by kernel_rfl)) (fun _ _ _ h => h) (Or.inr ⟨by rfl, rfl⟩) ?_ ?_
                                      rotate_left
                                      · simp only [Act.put, List.setIfInBounds_toArray, List.set_cons_zero, List.set_cons_succ, i64_w, i32_w]
                                        rfl
                                      refine pure_ (i := 26) (N := some 75) (v := ?_) (a' := ?_) #[true, true, true, true, true, true, true, true, true, true, true, true, true, true, true, true, true, true, true, true, true, true, true, true, true, true, true] rfl rfl (any_of HT_.out (by kernel_rfl)) (fun _ _ _ h => h) (Or.inl ⟨by rfl, ?_⟩) ?_ ?_
                                      rotate_left
                                      · intro w'
                                        go_simp
                                        with_reducible rfl
                                      rotate_left
                                      · simp only [Act.put, List.setIfInBounds_toArray, List.set_cons_zero, List.set_cons_succ, i64_w, i32_w]
                                        rfl
                                      refine done_ (done_of HT_.out (by kernel_rfl)) ?_
                                      try go_wp2
                                      (try simp only [← hl10_3])
                                      go_roundg k3
                                      case measure => have := HK1.out; have := HK2.out; have := HK3.out; omega
                                      case rel => exact ⟨(x10_3), (x11_3), (x13_3), (wrap64 (x14_3 + 1)), (by first | rfl | (simp; done) | (simp [*]; done)), (by first | rfl | (simp; done) | (simp [*]; done)), H', ⟨by have := HK1.out; have := HK2.out; have := HK3.out; omega⟩, ⟨by (try simp only [hl10_2]); (try simp only [hl10_3]); (with_reducible repeat (first | apply Kd.R_alloc | apply Kd.R_drewN | apply Kd.R_drew)); exact HO_10.out⟩, ⟨by (try simp only [hl10_2]); (try simp only [hl10_3]); (with_reducible repeat (first | apply Kd.R_alloc | apply Kd.R_drewN | apply Kd.R_drew)); exact HO_11.out⟩, ⟨by repeat (first | (with_reducible first | exact HB.out | apply below_alloc | apply pw_below_drewN | apply below_drew1 | refine below_set ?_ GE173.out) | exact HB.out)⟩⟩
                                  · rw [if_neg c31] at H
                                    exact absurd H (by simp)
                                · rw [if_neg c30] at H
                                  exact absurd H (by simp)
                              · rw [if_neg c29] at H
                                have c29b0 : decide (0 < ((rd_T74 l0 x14_3).f2)) = false := decide_eq_false c29
                                clear c29
                                have H' := Aside0.mk H
                                clear H
                                have p172 : 0 ≤ (x14_3 : Int) := of_decide_eq_true (by first | (with_reducible assumption) | assumption)
                                have q172 : x14_3 < (l0.length : Int) := of_decide_eq_true (by first | (with_reducible assumption) | assumption)
                                obtain ⟨ad172, e172, hx172_0, hx172_1, hx172_2, hx172_3⟩ := at_T74 HR0.out x14_3 p172 q172
                                cases e172
                                replace hx172_0 := (HB.out.cell (World.block_lt_of_cell? w _ hx172_0)).trans hx172_0
                                replace hx172_1 := (HB.out.cell (World.block_lt_of_cell? w _ hx172_1)).trans hx172_1
                                replace hx172_2 := (HB.out.cell (World.block_lt_of_cell? w _ hx172_2)).trans hx172_2
                                replace hx172_3 := (HB.out.cell (World.block_lt_of_cell? w _ hx172_3)).trans hx172_3
                                replace p172 := eq_true p172
                                replace q172 := eq_true q172
                                try go_wp2_with (first | ((with_reducible refine gate_dst (N := 15) rfl ?_); refine box_event ?hg (N := 15) ?hd (cs := #[.int .i64 0, .int .i64 0, .int .i64 0, .int .i64 0]) (t := 74) ?hr ?_; (case hd => rfl); (case hg => rfl); (case hr => first | (go_simp; done) | (go_simp; rfl)); intro gb173 hg w57 hbox hb; have n0_ := Aside0.mk (Kd.R_below (by (with_reducible repeat (first | apply Kd.R_alloc | apply Kd.R_drewN | apply Kd.R_drew)); exact HO_10.out) hb); have n1_ := Aside0.mk (Kd.R_below (by (with_reducible repeat (first | apply Kd.R_alloc | apply Kd.R_drewN | apply Kd.R_drew)); exact HO_11.out) hb); have n2_ := Aside0.mk (below_step (by repeat (first | (with_reducible first | exact HB.out | apply below_alloc | apply pw_below_drewN | apply below_drew1) | exact HB.out)) hb); have n3_ := Aside0.mk (hbox); have n4_ := Aside0.mk ((by rw [hg]; exact (below_size (by repeat (first | (with_reducible first | exact HB.out | apply below_alloc | apply pw_below_drewN | apply below_drew1) | exact HB.out))) : w.heap.size ≤ gb173)); have n5_ := Aside0.mk ((by rw [hg]; exact (below_size (by repeat (first | (with_reducible first | exact HB.out | apply below_alloc | apply pw_below_drewN | apply below_drew1) | exact HB.out))) : w.heap.size ≤ gb173)); clear HO_10; clear HO_11; clear HB; have HO_10 := n0_; have HO_11 := n1_; have HB := n2_; have BK173 := n3_; have GW173 := n4_; have GE173 := n5_; clear n0_ n1_ n2_ n3_ n4_ n5_; clear hb hbox hg; have hcz58_0 : w57.cell? ⟨gb173, 0, none⟩ = some (.int .i64 0) := (blk_cell BK173.out 0).trans rfl; have hcz58_1 : w57.cell? ⟨gb173, 1, none⟩ = some (.int .i64 0) := (blk_cell BK173.out 1).trans rfl; have hcz58_2 : w57.cell? ⟨gb173, 2, none⟩ = some (.int .i64 0) := (blk_cell BK173.out 2).trans rfl; have hcz58_3 : w57.cell? ⟨gb173, 3, none⟩ = some (.int .i64 0) := (blk_cell BK173.out 3).trans rfl; have hfz58_0 := blk_frozen BK173.out 0; have hfz58_1 := blk_frozen BK173.out 1; have hfz58_2 := blk_frozen BK173.out 2; have hfz58_3 := blk_frozen BK173.out 3))
                                have n0_ : Aside0 (Kd.R (Kd.int .i64) 3 ((((w57.setCell ⟨gb173, 0, none⟩ (.int .i64 ((rd_T74 l0 x14_3).f0))).setCell ⟨gb173, 1, none⟩ (.int .i64 ((rd_T74 l0 x14_3).f1))).setCell ⟨gb173, 2, none⟩ (.int .i64 ((rd_T74 l0 x14_3).f2))).setCell ⟨gb173, 3, none⟩ (.int .i64 ((rd_T74 l0 x14_3).f3))) w.heap.size (fun k_ => some k_ ≠ (v167 : Value).ownBlock) (.slice (some ⟨go23, 0, none⟩) x10_3.length co23) x10_3) := ⟨by (with_reducible repeat (first | apply Kd.R_alloc | apply Kd.R_drewN | apply Kd.R_drew)); exact Kd.R_mono (Kd.R_far (p := ⟨gb173, 3, none⟩) (Kd.R_far (p := ⟨gb173, 2, none⟩) (Kd.R_far (p := ⟨gb173, 1, none⟩) (Kd.R_far (p := ⟨gb173, 0, none⟩) (Kd.R_types HO_10.out BK173.out (by decide)) (fun _ hk => hk.2) (.int .i64 ((rd_T74 l0 x14_3).f0))) (fun _ hk => hk.2) (.int .i64 ((rd_T74 l0 x14_3).f1))) (fun _ hk => hk.2) (.int .i64 ((rd_T74 l0 x14_3).f2))) (fun _ hk => hk.2) (.int .i64 ((rd_T74 l0 x14_3).f3))) (fun _ hk => hk.1)⟩
                                have n1_ : Aside0 (Kd.R (Kd.int .i64) 3 ((((w57.setCell ⟨gb173, 0, none⟩ (.int .i64 ((rd_T74 l0 x14_3).f0))).setCell ⟨gb173, 1, none⟩ (.int .i64 ((rd_T74 l0 x14_3).f1))).setCell ⟨gb173, 2, none⟩ (.int .i64 ((rd_T74 l0 x14_3).f2))).setCell ⟨gb173, 3, none⟩ (.int .i64 ((rd_T74 l0 x14_3).f3))) w.heap.size (fun k_ => some k_ ≠ (.slice (some ⟨go23, 0, none⟩) x10_3.length co23 : Value).ownBlock) v167 x11_3) := ⟨by (with_reducible repeat (first | apply Kd.R_alloc | apply Kd.R_drewN | apply Kd.R_drew)); exact Kd.R_mono (Kd.R_far (p := ⟨gb173, 3, none⟩) (Kd.R_far (p := ⟨gb173, 2, none⟩) (Kd.R_far (p := ⟨gb173, 1, none⟩) (Kd.R_far (p := ⟨gb173, 0, none⟩) (Kd.R_types HO_11.out BK173.out (by decide)) (fun _ hk => hk.2) (.int .i64 ((rd_T74 l0 x14_3).f0))) (fun _ hk => hk.2) (.int .i64 ((rd_T74 l0 x14_3).f1))) (fun _ hk => hk.2) (.int .i64 ((rd_T74 l0 x14_3).f2))) (fun _ hk => hk.2) (.int .i64 ((rd_T74 l0 x14_3).f3))) (fun _ hk => hk.1)⟩
                                have n2_ : Aside0 (((((w57.setCell ⟨gb173, 0, none⟩ (.int .i64 ((rd_T74 l0 x14_3).f0))).setCell ⟨gb173, 1, none⟩ (.int .i64 ((rd_T74 l0 x14_3).f1))).setCell ⟨gb173, 2, none⟩ (.int .i64 ((rd_T74 l0 x14_3).f2))).setCell ⟨gb173, 3, none⟩ (.int .i64 ((rd_T74 l0 x14_3).f3))).heap[gb173]? = some (.cells #[.int .i64 ((rd_T74 l0 x14_3).f0), .int .i64 ((rd_T74 l0 x14_3).f1), .int .i64 ((rd_T74 l0 x14_3).f2), .int .i64 ((rd_T74 l0 x14_3).f3)] 74 (0, 0))) := ⟨by (with_reducible repeat (first | refine blk_drewN ?_ _ | refine blk_drew ?_ | refine blk_alloc ?_ _)); refine blk_put (cs := #[.int .i64 ((rd_T74 l0 x14_3).f0), .int .i64 ((rd_T74 l0 x14_3).f1), .int .i64 ((rd_T74 l0 x14_3).f2), .int .i64 0]) ?_ 3 _ rfl; (with_reducible repeat (first | refine blk_drewN ?_ _ | refine blk_drew ?_ | refine blk_alloc ?_ _)); refine blk_put (cs := #[.int .i64 ((rd_T74 l0 x14_3).f0), .int .i64 ((rd_T74 l0 x14_3).f1), .int .i64 0, .int .i64 0]) ?_ 2 _ rfl; (with_reducible repeat (first | refine blk_drewN ?_ _ | refine blk_drew ?_ | refine blk_alloc ?_ _)); refine blk_put (cs := #[.int .i64 ((rd_T74 l0 x14_3).f0), .int .i64 0, .int .i64 0, .int .i64 0]) ?_ 1 _ rfl; (with_reducible repeat (first | refine blk_drewN ?_ _ | refine blk_drew ?_ | refine blk_alloc ?_ _)); refine blk_put (cs := #[.int .i64 0, .int .i64 0, .int .i64 0, .int .i64 0]) ?_ 0 _ rfl; (with_reducible repeat (first | refine blk_drewN ?_ _ | refine blk_drew ?_ | refine blk_alloc ?_ _)); exact BK173.out⟩
                                have n3_ : Aside0 (Below w.heap.size w ((((w57.setCell ⟨gb173, 0, none⟩ (.int .i64 ((rd_T74 l0 x14_3).f0))).setCell ⟨gb173, 1, none⟩ (.int .i64 ((rd_T74 l0 x14_3).f1))).setCell ⟨gb173, 2, none⟩ (.int .i64 ((rd_T74 l0 x14_3).f2))).setCell ⟨gb173, 3, none⟩ (.int .i64 ((rd_T74 l0 x14_3).f3)))) := ⟨by repeat (first | (with_reducible first | exact HB.out | apply below_alloc | apply pw_below_drewN | apply below_drew1 | refine below_set ?_ GE173.out) | exact HB.out)⟩
                                (try clear HO_10)
                                (try clear HO_11)
                                (try clear BK173)
                                (try clear HB)
                                generalize ((((w57.setCell ⟨gb173, 0, none⟩ (.int .i64 ((rd_T74 l0 x14_3).f0))).setCell ⟨gb173, 1, none⟩ (.int .i64 ((rd_T74 l0 x14_3).f1))).setCell ⟨gb173, 2, none⟩ (.int .i64 ((rd_T74 l0 x14_3).f2))).setCell ⟨gb173, 3, none⟩ (.int .i64 ((rd_T74 l0 x14_3).f3))) = w59 at n0_ n1_ n2_ n3_ ⊢
                                have HO_10 := n0_
                                have HO_11 := n1_
                                have BK173 := n2_
                                have HB := n3_
                                clear n0_ n1_ n2_ n3_
                                have n0_ := Aside0.mk (Kd.R_drew HO_10.out)
                                have n1_ := Aside0.mk (Kd.R_drew HO_11.out)
                                have n2_ := Aside0.mk (blk_drew BK173.out)
                                have n3_ := Aside0.mk (below_drew1 HB.out)
                                clear HO_10
                                clear HO_11
                                clear BK173
                                clear HB
                                have HO_10 := n0_
                                have HO_11 := n1_
                                have BK173 := n2_
                                have HB := n3_
                                clear n0_ n1_ n2_ n3_
                                refine start_ (n := 27) (S := fun w' => w'.cell? ⟨gb173, 0, none⟩ = some (.int .i64 ((rd_T74 l0 x14_3).f0)) ∧ w'.cell? ⟨gb173, 1, none⟩ = some (.int .i64 ((rd_T74 l0 x14_3).f1)) ∧ w'.cell? ⟨gb173, 2, none⟩ = some (.int .i64 ((rd_T74 l0 x14_3).f2)) ∧ w'.cell? ⟨gb173, 3, none⟩ = some (.int .i64 ((rd_T74 l0 x14_3).f3))) (ds := []) #[false, false, false, false, false, false, false, false, false, false, false, false, false, false, false, false, false, false, false, false, false, false, false, false, false, false, false] (by kernel_rfl) rfl rfl ⟨(blk_cell BK173.out 0).trans rfl, (blk_cell BK173.out 1).trans rfl, (blk_cell BK173.out 2).trans rfl, (blk_cell BK173.out 3).trans rfl⟩ (fun hHeld => ?_); refine with_tabW turndownref08_shortest.tab16 turndownref08_shortest.bits16 (fun HT_ HW_ => ?_)
                                generalize w59.drew = w60 at HO_10 HO_11 BK173 HB hHeld ⊢
                                refine pure_ (i := 0) (N := some 49) (v := ?_) (a' := ?_) #[true, false, false, false, false, false, false, false, false, false, false, false, false, false, false, false, false, false, false, false, false, false, false, false, false, false, false] rfl rfl (any_of HT_.out (by kernel_rfl)) (fun _ _ _ h => h) (Or.inl ⟨by rfl, ?_⟩) ?_ ?_
                                rotate_left
                                · intro w'
                                  go_simp
                                  with_reducible rfl
                                rotate_left
                                · simp only [Act.put, List.setIfInBounds_toArray, List.set_cons_zero, List.set_cons_succ, i64_w, i32_w]
                                  rfl
                                refine take_ (i := 1) (N := some 50) (v := ?_) (a' := ?_) #[true, true, false, false, false, false, false, false, false, false, false, false, false, false, false, false, false, false, false, false, false, false, false, false, false, false, false] rfl rfl (take_ofW HT_.out HW_.out (by kernel_rfl)) (fun _ _ _ h => h) (Or.inl ⟨by rfl, ?_⟩) hHeld ?_ ?_
                                rotate_left
                                · rintro w' ⟨s0, s1, s2, s3⟩
                                  go_simp
                                  with_reducible rfl
                                rotate_left
                                · simp only [Act.put, List.setIfInBounds_toArray, List.set_cons_zero, List.set_cons_succ, i64_w, i32_w]
                                  rfl
                                refine pure_ (i := 2) (N := some 51) (v := ?_) (a' := ?_) #[true, true, true, false, false, false, false, false, false, false, false, false, false, false, false, false, false, false, false, false, false, false, false, false, false, false, false] rfl rfl (any_of HT_.out (by kernel_rfl)) (fun _ _ _ h => h) (Or.inl ⟨by rfl, ?_⟩) ?_ ?_
                                rotate_left
                                · intro w'
                                  go_simp
                                  with_reducible rfl
                                rotate_left
                                · simp only [Act.put, List.setIfInBounds_toArray, List.set_cons_zero, List.set_cons_succ, i64_w, i32_w]
                                  rfl
                                refine pure_ (i := 3) (N := some 52) (v := ?_) (a' := ?_) #[true, true, true, true, false, false, false, false, false, false, false, false, false, false, false, false, false, false, false, false, false, false, false, false, false, false, false] rfl rfl (any_of HT_.out (by kernel_rfl)) (fun _ _ _ h => h) (Or.inl ⟨by rfl, ?_⟩) ?_ ?_
                                rotate_left
                                · intro w'
                                  go_simp
                                  with_reducible rfl
                                rotate_left
                                · simp only [Act.put, List.setIfInBounds_toArray, List.set_cons_zero, List.set_cons_succ, i64_w, i32_w]
                                  rfl
                                refine pure_ (i := 4) (N := some 53) (v := undef) (a' := ?_) #[true, true, true, true, true, false, false, false, false, false, false, false, false, false, false, false, false, false, false, false, false, false, false, false, false, false, false] rfl rfl (any_of HT_.out (by kernel_rfl)) (fun _ _ _ h => h) (Or.inr ⟨by rfl, rfl⟩) ?_ ?_
                                rotate_left
                                · simp only [Act.put, List.setIfInBounds_toArray, List.set_cons_zero, List.set_cons_succ, i64_w, i32_w]
                                  rfl
                                refine pure_ (i := 5) (N := some 54) (v := undef) (a' := ?_) #[true, true, true, true, true, true, false, false, false, false, false, false, false, false, false, false, false, false, false, false, false, false, false, false, false, false, false] rfl rfl (any_of HT_.out (by kernel_rfl)) (fun _ _ _ h => h) (Or.inr ⟨by rfl, rfl⟩) ?_ ?_
                                rotate_left
                                · simp only [Act.put, List.setIfInBounds_toArray, List.set_cons_zero, List.set_cons_succ, i64_w, i32_w]
                                  rfl
                                refine pure_ (i := 6) (N := some 55) (v := undef) (a' := ?_) #[true, true, true, true, true, true, true, false, false, false, false, false, false, false, false, false, false, false, false, false, false, false, false, false, false, false, false] rfl rfl (any_of HT_.out (by kernel_rfl)) (fun _ _ _ h => h) (Or.inr ⟨by rfl, rfl⟩) ?_ ?_
                                rotate_left
                                · simp only [Act.put, List.setIfInBounds_toArray, List.set_cons_zero, List.set_cons_succ, i64_w, i32_w]
                                  rfl
                                refine pure_ (i := 7) (N := some 56) (v := undef) (a' := ?_) #[true, true, true, true, true, true, true, true, false, false, false, false, false, false, false, false, false, false, false, false, false, false, false, false, false, false, false] rfl rfl (any_of HT_.out (by kernel_rfl)) (fun _ _ _ h => h) (Or.inr ⟨by rfl, rfl⟩) ?_ ?_
                                rotate_left
                                · simp only [Act.put, List.setIfInBounds_toArray, List.set_cons_zero, List.set_cons_succ, i64_w, i32_w]
                                  rfl
                                refine pure_ (i := 8) (N := some 57) (v := undef) (a' := ?_) #[true, true, true, true, true, true, true, true, true, false, false, false, false, false, false, false, false, false, false, false, false, false, false, false, false, false, false] rfl rfl (any_of HT_.out (by kernel_rfl)) (fun _ _ _ h => h) (Or.inr ⟨by rfl, rfl⟩) ?_ ?_
                                rotate_left
                                · simp only [Act.put, List.setIfInBounds_toArray, List.set_cons_zero, List.set_cons_succ, i64_w, i32_w]
                                  rfl
                                refine pure_ (i := 9) (N := some 58) (v := undef) (a' := ?_) #[true, true, true, true, true, true, true, true, true, true, false, false, false, false, false, false, false, false, false, false, false, false, false, false, false, false, false] rfl rfl (any_of HT_.out (by kernel_rfl)) (fun _ _ _ h => h) (Or.inr ⟨by rfl, rfl⟩) ?_ ?_
                                rotate_left
                                · simp only [Act.put, List.setIfInBounds_toArray, List.set_cons_zero, List.set_cons_succ, i64_w, i32_w]
                                  rfl
                                refine pure_ (i := 10) (N := some 59) (v := ?_) (a' := ?_) #[true, true, true, true, true, true, true, true, true, true, true, false, false, false, false, false, false, false, false, false, false, false, false, false, false, false, false] rfl rfl (any_of HT_.out (by kernel_rfl)) (fun _ _ _ h => h) (Or.inl ⟨by rfl, ?_⟩) ?_ ?_
                                rotate_left
                                · intro w'
                                  go_simp
                                  with_reducible rfl
                                rotate_left
                                · simp only [Act.put, List.setIfInBounds_toArray, List.set_cons_zero, List.set_cons_succ, i64_w, i32_w]
                                  rfl
                                refine pure_ (i := 11) (N := some 60) (v := ?_) (a' := ?_) #[true, true, true, true, true, true, true, true, true, true, true, true, false, false, false, false, false, false, false, false, false, false, false, false, false, false, false] rfl rfl (any_of HT_.out (by kernel_rfl)) (fun _ _ _ h => h) (Or.inl ⟨by rfl, ?_⟩) ?_ ?_
                                rotate_left
                                · intro w'
                                  go_simp
                                  with_reducible rfl
                                rotate_left
                                · simp only [Act.put, List.setIfInBounds_toArray, List.set_cons_zero, List.set_cons_succ, i64_w, i32_w]
                                  rfl
                                refine pure_ (i := 12) (N := some 61) (v := undef) (a' := ?_) #[true, true, true, true, true, true, true, true, true, true, true, true, true, false, false, false, false, false, false, false, false, false, false, false, false, false, false] rfl rfl (any_of HT_.out (by kernel_rfl)) (fun _ _ _ h => h) (Or.inr ⟨by rfl, rfl⟩) ?_ ?_
                                rotate_left
                                · simp only [Act.put, List.setIfInBounds_toArray, List.set_cons_zero, List.set_cons_succ, i64_w, i32_w]
                                  rfl
                                refine pure_ (i := 13) (N := some 62) (v := undef) (a' := ?_) #[true, true, true, true, true, true, true, true, true, true, true, true, true, true, false, false, false, false, false, false, false, false, false, false, false, false, false] rfl rfl (any_of HT_.out (by kernel_rfl)) (fun _ _ _ h => h) (Or.inr ⟨by rfl, rfl⟩) ?_ ?_
                                rotate_left
                                · simp only [Act.put, List.setIfInBounds_toArray, List.set_cons_zero, List.set_cons_succ, i64_w, i32_w]
                                  rfl
                                refine pure_ (i := 14) (N := some 63) (v := undef) (a' := ?_) #[true, true, true, true, true, true, true, true, true, true, true, true, true, true, true, false, false, false, false, false, false, false, false, false, false, false, false] rfl rfl (any_of HT_.out (by kernel_rfl)) (fun _ _ _ h => h) (Or.inr ⟨by rfl, rfl⟩) ?_ ?_
                                rotate_left
                                · simp only [Act.put, List.setIfInBounds_toArray, List.set_cons_zero, List.set_cons_succ, i64_w, i32_w]
                                  rfl
                                refine pure_ (i := 15) (N := some 64) (v := undef) (a' := ?_) #[true, true, true, true, true, true, true, true, true, true, true, true, true, true, true, true, false, false, false, false, false, false, false, false, false, false, false] rfl rfl (any_of HT_.out (by kernel_rfl)) (fun _ _ _ h => h) (Or.inr ⟨by rfl, rfl⟩) ?_ ?_
                                rotate_left
                                · simp only [Act.put, List.setIfInBounds_toArray, List.set_cons_zero, List.set_cons_succ, i64_w, i32_w]
                                  rfl
                                refine pure_ (i := 16) (N := some 65) (v := undef) (a' := ?_) #[true, true, true, true, true, true, true, true, true, true, true, true, true, true, true, true, true, false, false, false, false, false, false, false, false, false, false] rfl rfl (any_of HT_.out (by kernel_rfl)) (fun _ _ _ h => h) (Or.inr ⟨by rfl, rfl⟩) ?_ ?_
                                rotate_left
                                · simp only [Act.put, List.setIfInBounds_toArray, List.set_cons_zero, List.set_cons_succ, i64_w, i32_w]
                                  rfl
                                refine pure_ (i := 17) (N := some 66) (v := undef) (a' := ?_) #[true, true, true, true, true, true, true, true, true, true, true, true, true, true, true, true, true, true, false, false, false, false, false, false, false, false, false] rfl rfl (any_of HT_.out (by kernel_rfl)) (fun _ _ _ h => h) (Or.inr ⟨by rfl, rfl⟩) ?_ ?_
                                rotate_left
                                · simp only [Act.put, List.setIfInBounds_toArray, List.set_cons_zero, List.set_cons_succ, i64_w, i32_w]
                                  rfl
                                refine pure_ (i := 18) (N := some 67) (v := undef) (a' := ?_) #[true, true, true, true, true, true, true, true, true, true, true, true, true, true, true, true, true, true, true, false, false, false, false, false, false, false, false] rfl rfl (any_of HT_.out (by kernel_rfl)) (fun _ _ _ h => h) (Or.inr ⟨by rfl, rfl⟩) ?_ ?_
                                rotate_left
                                · simp only [Act.put, List.setIfInBounds_toArray, List.set_cons_zero, List.set_cons_succ, i64_w, i32_w]
                                  rfl
                                refine pure_ (i := 19) (N := some 68) (v := undef) (a' := ?_) #[true, true, true, true, true, true, true, true, true, true, true, true, true, true, true, true, true, true, true, true, false, false, false, false, false, false, false] rfl rfl (any_of HT_.out (by kernel_rfl)) (fun _ _ _ h => h) (Or.inr ⟨by rfl, rfl⟩) ?_ ?_
                                rotate_left
                                · simp only [Act.put, List.setIfInBounds_toArray, List.set_cons_zero, List.set_cons_succ, i64_w, i32_w]
                                  rfl
                                refine pure_ (i := 20) (N := some 69) (v := undef) (a' := ?_) #[true, true, true, true, true, true, true, true, true, true, true, true, true, true, true, true, true, true, true, true, true, false, false, false, false, false, false] rfl rfl (any_of HT_.out (by kernel_rfl)) (fun _ _ _ h => h) (Or.inr ⟨by rfl, rfl⟩) ?_ ?_
                                rotate_left
                                · simp only [Act.put, List.setIfInBounds_toArray, List.set_cons_zero, List.set_cons_succ, i64_w, i32_w]
                                  rfl
                                refine pure_ (i := 21) (N := some 70) (v := undef) (a' := ?_) #[true, true, true, true, true, true, true, true, true, true, true, true, true, true, true, true, true, true, true, true, true, true, false, false, false, false, false] rfl rfl (any_of HT_.out (by kernel_rfl)) (fun _ _ _ h => h) (Or.inr ⟨by rfl, rfl⟩) ?_ ?_
                                rotate_left
                                · simp only [Act.put, List.setIfInBounds_toArray, List.set_cons_zero, List.set_cons_succ, i64_w, i32_w]
                                  rfl
                                refine pure_ (i := 22) (N := some 71) (v := undef) (a' := ?_) #[true, true, true, true, true, true, true, true, true, true, true, true, true, true, true, true, true, true, true, true, true, true, true, false, false, false, false] rfl rfl (any_of HT_.out (by kernel_rfl)) (fun _ _ _ h => h) (Or.inr ⟨by rfl, rfl⟩) ?_ ?_
                                rotate_left
                                · simp only [Act.put, List.setIfInBounds_toArray, List.set_cons_zero, List.set_cons_succ, i64_w, i32_w]
                                  rfl
                                refine pure_ (i := 23) (N := some 72) (v := undef) (a' := ?_) #[true, true, true, true, true, true, true, true, true, true, true, true, true, true, true, true, true, true, true, true, true, true, true, true, false, false, false] rfl rfl (any_of HT_.out (by kernel_rfl)) (fun _ _ _ h => h) (Or.inr ⟨by rfl, rfl⟩) ?_ ?_
                                rotate_left
                                · simp only [Act.put, List.setIfInBounds_toArray, List.set_cons_zero, List.set_cons_succ, i64_w, i32_w]
                                  rfl
                                refine pure_ (i := 24) (N := some 73) (v := undef) (a' := ?_) #[true, true, true, true, true, true, true, true, true, true, true, true, true, true, true, true, true, true, true, true, true, true, true, true, true, false, false] rfl rfl (any_of HT_.out (by kernel_rfl)) (fun _ _ _ h => h) (Or.inr ⟨by rfl, rfl⟩) ?_ ?_
                                rotate_left
                                · simp only [Act.put, List.setIfInBounds_toArray, List.set_cons_zero, List.set_cons_succ, i64_w, i32_w]
                                  rfl
                                refine pure_ (i := 25) (N := some 74) (v := undef) (a' := ?_) #[true, true, true, true, true, true, true, true, true, true, true, true, true, true, true, true, true, true, true, true, true, true, true, true, true, true, false] rfl rfl (any_of HT_.out (by kernel_rfl)) (fun _ _ _ h => h) (Or.inr ⟨by rfl, rfl⟩) ?_ ?_
                                rotate_left
                                · simp only [Act.put, List.setIfInBounds_toArray, List.set_cons_zero, List.set_cons_succ, i64_w, i32_w]
                                  rfl
                                refine pure_ (i := 26) (N := some 75) (v := ?_) (a' := ?_) #[true, true, true, true, true, true, true, true, true, true, true, true, true, true, true, true, true, true, true, true, true, true, true, true, true, true, true] rfl rfl (any_of HT_.out (by kernel_rfl)) (fun _ _ _ h => h) (Or.inl ⟨by rfl, ?_⟩) ?_ ?_
                                rotate_left
                                · intro w'
                                  go_simp
                                  with_reducible rfl
                                rotate_left
                                · simp only [Act.put, List.setIfInBounds_toArray, List.set_cons_zero, List.set_cons_succ, i64_w, i32_w]
                                  rfl
                                refine done_ (done_of HT_.out (by kernel_rfl)) ?_
                                try go_wp2
                                (try simp only [← hl10_3])
                                go_roundg k3
                                case measure => have := HK1.out; have := HK2.out; have := HK3.out; omega
                                case rel => exact ⟨(x10_3), (x11_3), (x13_3), (wrap64 (x14_3 + 1)), (by first | rfl | (simp; done) | (simp [*]; done)), (by first | rfl | (simp; done) | (simp [*]; done)), H', ⟨by have := HK1.out; have := HK2.out; have := HK3.out; omega⟩, ⟨by (try simp only [hl10_2]); (try simp only [hl10_3]); (with_reducible repeat (first | apply Kd.R_alloc | apply Kd.R_drewN | apply Kd.R_drew)); exact HO_10.out⟩, ⟨by (try simp only [hl10_2]); (try simp only [hl10_3]); (with_reducible repeat (first | apply Kd.R_alloc | apply Kd.R_drewN | apply Kd.R_drew)); exact HO_11.out⟩, ⟨by repeat (first | (with_reducible first | exact HB.out | apply below_alloc | apply pw_below_drewN | apply below_drew1 | refine below_set ?_ GE173.out) | exact HB.out)⟩⟩
                            · rw [if_neg c28] at H
                              exact absurd H (by simp)
                          · rw [if_neg c27] at H
                            have c27b0 : decide (x14_3 < (l0.length : Int)) = false := decide_eq_false c27
                            clear c27
                            have H' := Aside0.mk H
                            clear H
                            go_wp2
                            (try simp only [← hl10_2, ← hl10_3])
                            go_roundg k3
                            case measure => have := HK1.out; have := HK2.out; have := HK3.out; omega
                            case rel => exact ⟨(x10_3), (x11_3), (x13_3), (by first | rfl | (simp; done) | (simp [*]; done)), H', ⟨by have := HK1.out; have := HK2.out; have := HK3.out; omega⟩, ⟨by (try simp only [hl10_2]); (try simp only [hl10_3]); (with_reducible repeat (first | apply Kd.R_alloc | apply Kd.R_drewN | apply Kd.R_drew)); exact HO_10.out⟩, ⟨by (try simp only [hl10_2]); (try simp only [hl10_3]); (with_reducible repeat (first | apply Kd.R_alloc | apply Kd.R_drewN | apply Kd.R_drew)); exact HO_11.out⟩, ⟨by repeat (first | (with_reducible first | exact HB.out | apply below_alloc | apply pw_below_drewN | apply below_drew1) | exact HB.out)⟩⟩
                    · replace c26 := Bool.eq_false_iff.mpr c26
                      subst c26
                      have H1 : (if 0 ≤ a3 then (if a3 < (x10_2.length : Int) then (if (rd x10_2 a3) ≥ 1152921504606846976 then (some (1152921504606846976, ([] : List (S74)))) else (if ([] : List (S74)).length + l0.length < 4398046511104 then (turndownref08_shortest.l3 k2 a2 a3 x10_2 x11_2 (([] : List (S74)) ++ l0) a3) else (none))) else (none)) else (none)) = some (r1, r2) := by rw [if_neg (show ¬ (false = true) by decide)] at H; exact H
                      clear H
                      have H := H1
                      clear H1
                      by_cases c61 : 0 ≤ a3
                      · rw [if_pos c61] at H
                        have c61b0 : decide (0 ≤ a3) = true := decide_eq_true c61
                        clear c61
                        by_cases c62 : a3 < (x10_2.length : Int)
                        · rw [if_pos c62] at H
                          have c62b0 : decide (a3 < (x10_2.length : Int)) = true := decide_eq_true c62
                          clear c62
                          by_cases c63 : (rd x10_2 a3) ≥ 1152921504606846976
                          · rw [if_pos c63] at H
                            have c63b0 : decide (1152921504606846976 ≤ (rd x10_2 a3)) = true := decide_eq_true c63
                            clear c63
                            simp only [Option.some.injEq, Prod.mk.injEq] at H
                            obtain ⟨rfl, rfl⟩ := H
                            have p180 : 0 ≤ (a3 : Int) := of_decide_eq_true (by first | (with_reducible assumption) | assumption)
                            have q180 : a3 < (x10_2.length : Int) := of_decide_eq_true (by first | (with_reducible assumption) | assumption)
                            obtain ⟨ad180, e180, hx180_0⟩ := Kd.at_int (Kd.R_reads' HO_10.out).2.2 a3 p180 q180
                            obtain rfl : (⟨go23, 0, none⟩ : Addr) = ad180 := (by injection e180)
                            (first | simp only [add_plain] at hx180_0 | simp only [add_at] at hx180_0 | simp only [Addr.add, Nat.zero_add] at hx180_0 | skip)
                            replace p180 := eq_true p180
                            replace q180 := eq_true q180
                            go_wp2
                            go_ret2
                            exact ⟨_, by first | rfl | (simp [errW_none, errW_some] <;> rfl) | (simp [*, errW_none, errW_some] <;> rfl), by first | exact Kd.R_nil _ _ _ _ _ | exact Kd.N_nil _ _ _ _ _ | exact Kd.V_nil _ _ _ _ _ | exact Kd.Q_nil _ _ _ _ _ | exact Kd.S_nil _ _ _ _ _, by repeat (first | (with_reducible first | exact HB.out | apply below_alloc | apply pw_below_drewN | apply below_drew1) | exact HB.out)⟩
                          · rw [if_neg c63] at H
                            have c63b0 : decide (1152921504606846976 ≤ (rd x10_2 a3)) = false := decide_eq_false c63
                            clear c63
                            by_cases c64 : ([] : List (S74)).length + l0.length < 4398046511104
                            · rw [if_pos c64] at H
                              have LMc64 := Aside0.mk c64
                              clear c64
                              obtain ⟨y181, hy181⟩ : ∃ y_ : List (S74), y_ = (([] : List (S74)) ++ l0) := ⟨_, rfl⟩
                              replace H : (turndownref08_shortest.l3 k2 a2 a3 x10_2 x11_2 y181 a3) = some (r1, r2) := by first | (rw [hy181]; with_reducible exact H) | (have H2_ := (Option.bind_some _ _).symm.trans H; rw [hy181]; with_reducible exact H2_) | (have H2_ := (Option.bind_some _ _).symm.trans H; with_reducible exact H2_) | with_reducible exact H | (rw [hy181]; exact H) | exact H
                              have Ny181 := Aside0.mk hy181
                              clear hy181
                              have H' := Aside0.mk H
                              clear H
                              have p180 : 0 ≤ (a3 : Int) := of_decide_eq_true (by first | (with_reducible assumption) | assumption)
                              have q180 : a3 < (x10_2.length : Int) := of_decide_eq_true (by first | (with_reducible assumption) | assumption)
                              obtain ⟨ad180, e180, hx180_0⟩ := Kd.at_int (Kd.R_reads' HO_10.out).2.2 a3 p180 q180
                              obtain rfl : (⟨go23, 0, none⟩ : Addr) = ad180 := (by injection e180)
                              (first | simp only [add_plain] at hx180_0 | simp only [add_at] at hx180_0 | simp only [Addr.add, Nat.zero_add] at hx180_0 | skip)
                              replace p180 := eq_true p180
                              replace q180 := eq_true q180
                              go_wp2_with (first | ((with_reducible refine gate_builtin (b := .append) (xs := #[.tmp 98, .tmp 99]) rfl ?_); at_builtin; refine Kd.R_append_rows k74 (w0 := w) w.heap.size rfl (.tmp 98) (.tmp 99) 71 74 (.agg #[(.int .i64 0), (.int .i64 0), (.int .i64 0), (.int .i64 0)]) 32 rfl Try.underlying71 info74 rfl (by decide) (by omega) (.slice none 0 0) ([] : List (S74)) l0 _ _ _ (fun _ => True) (fun _ => False) rfl rfl ?aO ?aR (fun _ _ h => h) (fun _ h => h.elim) ?aF ?aB ?aS ?aL ?_; (case aR => repeat (first | exact (Kd.C_below HR0.out HB.out) | (with_reducible refine Kd.C_alloc ?_ _) | (with_reducible refine Kd.C_drewN ?_ _) | (with_reducible refine Kd.C_drew ?_))); (case aB => exact (by repeat (first | (with_reducible first | exact HB.out | apply below_alloc | apply pw_below_drewN | apply below_drew1) | exact HB.out))); (case aF => exact (fun _ _ => trivial)); (case aO => exact ((Kd.R_nil _ _ _ _ (fun _ => True)))); (case aS => exact (below_size (by repeat (first | (with_reducible first | exact HB.out | apply below_alloc | apply pw_below_drewN | apply below_drew1) | exact HB.out)))); (case aL => have := LMc64.out; omega); intro v182 w65 ho hb hg hat; rw [← Ny181.out] at ho; have n0_ := Aside0.mk (Kd.R_grown (by (with_reducible repeat (first | apply Kd.R_alloc | apply Kd.R_drewN | apply Kd.R_drew)); exact HO_10.out) hg (fun _ _ => by simp [Value.ownBlock])); have n1_ := Aside0.mk (Kd.R_grown (by (with_reducible repeat (first | apply Kd.R_alloc | apply Kd.R_drewN | apply Kd.R_drew)); exact HO_11.out) hg (fun _ _ => by simp [Value.ownBlock])); have n2_ := Aside0.mk (hb); have n3_ := Aside0.mk (ho); clear HO_10; clear HO_11; clear HB; have HO_10 := n0_; have HO_11 := n1_; have HB := n2_; have HO183 := n3_; clear n0_ n1_ n2_ n3_; clear ho hb hg hat))
                              go_loopg [17] k2 (fun kq v17 w' => ∃ (x16_3 : List (S74)) (x17_3 : Int), v17 = .int .i64 x17_3 ∧ Aside0 (turndownref08_shortest.l3 kq a2 a3 x10_2 x11_2 x16_3 x17_3 = some (r1, r2)) ∧ Aside0 (kq ≤ k2) ∧ Aside0 (Kd.R (Kd.int .i64) 3 w' w.heap.size (fun k_ => some k_ ≠ (v167 : Value).ownBlock) (.slice (some ⟨go23, 0, none⟩) x10_2.length co23) x10_2) ∧ Aside0 (Kd.R (Kd.int .i64) 3 w' w.heap.size (fun k_ => some k_ ≠ ((.slice (some ⟨go23, 0, none⟩) x10_2.length co23) : Value).ownBlock) v167 x11_2) ∧ Aside0 (Kd.R k74 74 w' w.heap.size (fun _ => True) v182 x16_3) ∧ Aside0 (Below w.heap.size w w'))
                              case atStart => exact ⟨(y181), (a3), (by first | rfl | (simp; done) | (simp [*]; done)), H', ⟨Nat.le_refl _⟩, ⟨by (try simp only [hl10_2]); (with_reducible repeat (first | apply Kd.R_alloc | apply Kd.R_drewN | apply Kd.R_drew)); exact HO_10.out⟩, ⟨by (try simp only [hl10_2]); (with_reducible repeat (first | apply Kd.R_alloc | apply Kd.R_drewN | apply Kd.R_drew)); exact HO_11.out⟩, ⟨by (try simp only [hl10_2]); (with_reducible repeat (first | apply Kd.R_alloc | apply Kd.R_drewN | apply Kd.R_drew)); exact HO183.out⟩, ⟨by repeat (first | (with_reducible first | exact HB.out | apply below_alloc | apply pw_below_drewN | apply below_drew1) | exact HB.out)⟩⟩
                              case round =>
                                clear H'
                                try clear p1
                                try clear q1
                                try clear hx1
                                try clear c2
                                try clear p2
                                try clear c3
                                try clear c6
                                try clear p6
                                try clear p17
                                try clear q17
                                try clear hx17
                                try clear p18
                                try clear q18
                                try clear hx18
                                try clear c26
                                try clear c27
                                try clear c27b0
                                try clear c28
                                try clear c29
                                try clear c29b0
                                try clear c30
                                try clear c31
                                try clear c32
                                try clear c32b0
                                try clear c33
                                try clear c34
                                try clear c61
                                try clear c61b0
                                try clear c62
                                try clear c62b0
                                try clear c63
                                try clear c63b0
                                try clear c64
                                try clear p64
                                try clear hcz54_0
                                try clear hcz54_1
                                try clear hcz54_2
                                try clear hcz54_3
                                try clear hcz58_0
                                try clear hcz58_1
                                try clear hcz58_2
                                try clear hcz58_3
                                try clear hfz54_0
                                try clear hfz54_1
                                try clear hfz54_2
                                try clear hfz54_3
                                try clear hfz58_0
                                try clear hfz58_1
                                try clear hfz58_2
                                try clear hfz58_3
                                try clear hx172_0
                                try clear hx172_1
                                try clear hx172_2
                                try clear hx172_3
                                try clear hx174_0
                                try clear hx180_0
                                try clear p172
                                try clear p174
                                try clear p180
                                try clear q172
                                try clear q174
                                try clear q180
                                obtain ⟨x16_3, x17_3, rfl, HA, HK3, HO_10, HO_11, HO_16, HB⟩ := hrel
                                cases gk with
                                | zero => exact absurd HA.out (by simp [turndownref08_shortest.l3])
                                | succ k3 =>
                                  have H := HA.out
                                  clear HA
                                  simp only [turndownref08_shortest.l3] at H
                                  by_cases c66 : x17_3 = a2
                                  · rw [if_pos c66] at H
                                    have c66b0 : (x17_3 == a2) = true := beq_iff_eq.mpr c66
                                    have c66b1 : (x17_3 != a2) = false := bne_eq_false_iff_eq.mpr c66
                                    clear c66
                                    by_cases c67 : 0 ≤ a3
                                    · rw [if_pos c67] at H
                                      have c67b0 : decide (0 ≤ a3) = true := decide_eq_true c67
                                      clear c67
                                      by_cases c68 : a3 < (x10_2.length : Int)
                                      · rw [if_pos c68] at H
                                        have c68b0 : decide (a3 < (x10_2.length : Int)) = true := decide_eq_true c68
                                        clear c68
                                        simp only [Option.some.injEq, Prod.mk.injEq] at H
                                        obtain ⟨rfl, rfl⟩ := H
                                        have p184 : 0 ≤ (a3 : Int) := of_decide_eq_true (by first | (with_reducible assumption) | assumption)
                                        have q184 : a3 < (x10_2.length : Int) := of_decide_eq_true (by first | (with_reducible assumption) | assumption)
                                        obtain ⟨ad184, e184, hx184_0⟩ := Kd.at_int (Kd.R_reads' HO_10.out).2.2 a3 p184 q184
                                        obtain rfl : (⟨go23, 0, none⟩ : Addr) = ad184 := (by injection e184)
                                        (first | simp only [add_plain] at hx184_0 | simp only [add_at] at hx184_0 | simp only [Addr.add, Nat.zero_add] at hx184_0 | skip)
                                        replace p184 := eq_true p184
                                        replace q184 := eq_true q184
                                        go_wp2
                                        go_ret2
                                        exact ⟨_, by first | rfl | (simp [errW_none, errW_some] <;> rfl) | (simp [*, errW_none, errW_some] <;> rfl), by (with_reducible repeat (first | apply Kd.R_alloc | apply Kd.R_drewN | apply Kd.R_drew)); exact HO_16.out, by repeat (first | (with_reducible first | exact HB.out | apply below_alloc | apply pw_below_drewN | apply below_drew1) | exact HB.out)⟩
                                      · rw [if_neg c68] at H
                                        exact absurd H (by simp)
                                    · rw [if_neg c67] at H
                                      exact absurd H (by simp)
                                  · rw [if_neg c66] at H
                                    have c66b0 : (x17_3 == a2) = false := beq_eq_false_iff_ne.mpr c66
                                    have c66b1 : (x17_3 != a2) = true := bne_iff_ne.mpr c66
                                    by_cases c69 : 0 ≤ x17_3
                                    · rw [if_pos c69] at H
                                      have c69b0 : decide (0 ≤ x17_3) = true := decide_eq_true c69
                                      clear c69
                                      by_cases c70 : x17_3 < (x11_2.length : Int)
                                      · rw [if_pos c70] at H
                                        have c70b0 : decide (x17_3 < (x11_2.length : Int)) = true := decide_eq_true c70
                                        clear c70
                                        by_cases c71 : 0 ≤ (rd x11_2 x17_3)
                                        · rw [if_pos c71] at H
                                          have c71b0 : decide (0 ≤ (rd x11_2 x17_3)) = true := decide_eq_true c71
                                          clear c71
                                          by_cases c72 : (rd x11_2 x17_3) < (x16_3.length : Int)
                                          · rw [if_pos c72] at H
                                            have c72b0 : decide ((rd x11_2 x17_3) < (x16_3.length : Int)) = true := decide_eq_true c72
                                            clear c72
                                            obtain ⟨y187, hy187⟩ : ∃ y_ : List (S74), y_ = (x16_3.set ((rd x11_2 x17_3) : Int).toNat (⟨(rd_T74 x16_3 (rd x11_2 x17_3)).f0, (rd_T74 x16_3 (rd x11_2 x17_3)).f1, wrap64 (((rd_T74 x16_3 (rd x11_2 x17_3)).f2) - 1), (rd_T74 x16_3 (rd x11_2 x17_3)).f3⟩ : S74)) := ⟨_, rfl⟩
                                            replace H : (if 0 ≤ (wrap64 ((wrap64 ((rd x11_2 x17_3) + 1)) - (wrap64 (2 * (Int.tmod (rd x11_2 x17_3) 2))))) then (if (wrap64 ((wrap64 ((rd x11_2 x17_3) + 1)) - (wrap64 (2 * (Int.tmod (rd x11_2 x17_3) 2))))) < (x16_3.length : Int) then ((some (y187.set ((wrap64 ((wrap64 ((rd x11_2 x17_3) + 1)) - (wrap64 (2 * (Int.tmod (rd x11_2 x17_3) 2))))) : Int).toNat (⟨(rd_T74 y187 (wrap64 ((wrap64 ((rd x11_2 x17_3) + 1)) - (wrap64 (2 * (Int.tmod (rd x11_2 x17_3) 2)))))).f0, (rd_T74 y187 (wrap64 ((wrap64 ((rd x11_2 x17_3) + 1)) - (wrap64 (2 * (Int.tmod (rd x11_2 x17_3) 2)))))).f1, wrap64 (((rd_T74 y187 (wrap64 ((wrap64 ((rd x11_2 x17_3) + 1)) - (wrap64 (2 * (Int.tmod (rd x11_2 x17_3) 2)))))).f2) + 1), (rd_T74 y187 (wrap64 ((wrap64 ((rd x11_2 x17_3) + 1)) - (wrap64 (2 * (Int.tmod (rd x11_2 x17_3) 2)))))).f3⟩ : S74) : List (S74))).bind fun y189 => (turndownref08_shortest.l3 k3 a2 a3 x10_2 x11_2 y189 ((rd_T74 y189 (rd x11_2 x17_3)).f0))) else (none)) else (none)) = some (r1, r2) := by first | (rw [hy187]; with_reducible exact H) | (have H2_ := (Option.bind_some _ _).symm.trans H; rw [hy187]; with_reducible exact H2_) | (have H2_ := (Option.bind_some _ _).symm.trans H; with_reducible exact H2_) | with_reducible exact H | (rw [hy187]; exact H) | exact H
                                            have Ny187 := Aside0.mk hy187
                                            clear hy187
                                            obtain ⟨ji74, hji74⟩ : ∃ j_ : Int, (wrap64 ((wrap64 ((rd x11_2 x17_3) + 1)) - (wrap64 (2 * (Int.tmod (rd x11_2 x17_3) 2))))) = j_ := ⟨_, rfl⟩
                                            replace H : (if 0 ≤ (ji74) then (if (ji74) < (x16_3.length : Int) then ((some (y187.set ((ji74) : Int).toNat (⟨(rd_T74 y187 (ji74)).f0, (rd_T74 y187 (ji74)).f1, wrap64 (((rd_T74 y187 (ji74)).f2) + 1), (rd_T74 y187 (ji74)).f3⟩ : S74) : List (S74))).bind fun y189 => (turndownref08_shortest.l3 k3 a2 a3 x10_2 x11_2 y189 ((rd_T74 y189 (rd x11_2 x17_3)).f0))) else (none)) else (none)) = some (r1, r2) := by first | (rw [hji74] at H; exact H) | (simp only [hji74] at H ⊢; exact H)
                                            have hji74w : (IntKind.i64.wrap ((wrap64 ((rd x11_2 x17_3) + 1)) - (wrap64 (2 * (Int.tmod (rd x11_2 x17_3) 2))))) = ji74 := (i64_w _).trans hji74
                                            by_cases c75 : 0 ≤ (ji74)
                                            · rw [if_pos c75] at H
                                              have c75b0 : decide (0 ≤ (ji74)) = true := decide_eq_true c75
                                              clear c75
                                              by_cases c76 : (ji74) < (x16_3.length : Int)
                                              · rw [if_pos c76] at H
                                                have c76b0 : decide ((ji74) < (x16_3.length : Int)) = true := decide_eq_true c76
                                                clear c76
                                                obtain ⟨y189, hy189⟩ : ∃ y_ : List (S74), y_ = (y187.set ((ji74) : Int).toNat (⟨(rd_T74 y187 (ji74)).f0, (rd_T74 y187 (ji74)).f1, wrap64 (((rd_T74 y187 (ji74)).f2) + 1), (rd_T74 y187 (ji74)).f3⟩ : S74)) := ⟨_, rfl⟩
                                                replace H : (turndownref08_shortest.l3 k3 a2 a3 x10_2 x11_2 y189 ((rd_T74 y189 (rd x11_2 x17_3)).f0)) = some (r1, r2) := by first | (rw [hy189]; with_reducible exact H) | (have H2_ := (Option.bind_some _ _).symm.trans H; rw [hy189]; with_reducible exact H2_) | (have H2_ := (Option.bind_some _ _).symm.trans H; with_reducible exact H2_) | with_reducible exact H | (rw [hy189]; exact H) | exact H
                                                have Ny189 := Aside0.mk hy189
                                                clear hy189
                                                have H' := Aside0.mk H
                                                clear H
                                                obtain ⟨Ao78, co78, eo78⟩ := Kd.R_slice HO_11.out
                                                subst eo78
                                                have p185 : 0 ≤ (x17_3 : Int) := of_decide_eq_true (by first | (with_reducible assumption) | assumption)
                                                have q185 : x17_3 < (x11_2.length : Int) := of_decide_eq_true (by first | (with_reducible assumption) | assumption)
                                                obtain ⟨ad185, e185, hx185_0⟩ := Kd.at_int (Kd.R_reads' HO_11.out).2.2 x17_3 p185 q185
                                                cases e185
                                                replace p185 := eq_true p185
                                                replace q185 := eq_true q185
                                                obtain ⟨Ao79, co79, eo79⟩ := Kd.R_slice HO_16.out
                                                subst eo79
                                                have p186 : 0 ≤ ((rd x11_2 x17_3) : Int) := of_decide_eq_true (by first | (with_reducible assumption) | assumption)
                                                have q186 : (rd x11_2 x17_3) < (x16_3.length : Int) := of_decide_eq_true (by first | (with_reducible assumption) | assumption)
                                                obtain ⟨ad186, e186, hx186_0, hx186_1, hx186_2, hx186_3⟩ := at_T74 (Kd.R_reads' HO_16.out).2.2 (rd x11_2 x17_3) p186 q186
                                                cases e186
                                                replace p186 := eq_true p186
                                                replace q186 := eq_true q186
                                                have p73 : 0 ≤ ((rd x11_2 x17_3) : Int) := of_decide_eq_true (by first | (with_reducible assumption) | assumption)
                                                have q73 : ((rd x11_2 x17_3) : Int) < ((x16_3.length : Int) : Int) := of_decide_eq_true (by first | (with_reducible assumption) | assumption)
                                                obtain ⟨go73, co73, eo73, gb73, gl73, cl73, HG73⟩ := Kd.R_form HO_16.out (by omega)
                                                (first | cases eo73 | (injection eo73 with ea_ en_ ec_; (first | subst ea_ | (injection ea_ with ea_; subst ea_)); subst ec_; clear en_))
                                                have GB73 := Aside0.mk gb73
                                                have GG73 := Aside0.mk HG73
                                                clear gb73 gl73 HG73
                                                (first | simp only [add_plain] at hx186_0 | skip)
                                                (first | simp only [add_plain] at hx186_1 | skip)
                                                (first | simp only [add_plain] at hx186_2 | skip)
                                                (first | simp only [add_plain] at hx186_3 | skip)
                                                obtain ⟨ce73, hcl73, hM73, hcc73, hfr73⟩ := Kd.R_elem HO_16.out z74 ((rd x11_2 x17_3) : Int) p73 q73
                                                obtain rfl := k74_openM hM73
                                                have hx73_0 : wr.cell? ⟨go73, ((rd x11_2 x17_3) : Int).toNat * 4, none⟩ = some (.int .i64 ((rd_T74 x16_3 (rd x11_2 x17_3)).f0)) := hcc73 0 _ rfl
                                                have hx73_1 : wr.cell? ⟨go73, ((rd x11_2 x17_3) : Int).toNat * 4 + 1, none⟩ = some (.int .i64 ((rd_T74 x16_3 (rd x11_2 x17_3)).f1)) := hcc73 1 _ rfl
                                                have hx73_2 : wr.cell? ⟨go73, ((rd x11_2 x17_3) : Int).toNat * 4 + 2, none⟩ = some (.int .i64 ((rd_T74 x16_3 (rd x11_2 x17_3)).f2)) := hcc73 2 _ rfl
                                                have hx73_3 : wr.cell? ⟨go73, ((rd x11_2 x17_3) : Int).toNat * 4 + 3, none⟩ = some (.int .i64 ((rd_T74 x16_3 (rd x11_2 x17_3)).f3)) := hcc73 3 _ rfl
                                                have hf73_0 : wr.frozen? ⟨go73, ((rd x11_2 x17_3) : Int).toNat * 4, none⟩ = false := hfr73 0
                                                have hf73_1 : wr.frozen? ⟨go73, ((rd x11_2 x17_3) : Int).toNat * 4 + 1, none⟩ = false := hfr73 1
                                                have hf73_2 : wr.frozen? ⟨go73, ((rd x11_2 x17_3) : Int).toNat * 4 + 2, none⟩ = false := hfr73 2
                                                have hf73_3 : wr.frozen? ⟨go73, ((rd x11_2 x17_3) : Int).toNat * 4 + 3, none⟩ = false := hfr73 3
                                                clear hcl73 hcc73 hfr73 hM73
                                                replace p73 := eq_true p73
                                                replace q73 := eq_true q73
                                                have HX80 := Aside0.mk (show Kd.R k74 74 wr w.heap.size (fun _ => True) (.slice (some ⟨go73, 0, none⟩) x16_3.length co79) x16_3 from (by (with_reducible repeat (first | apply Kd.R_alloc | apply Kd.R_drewN | apply Kd.R_drew)); exact HO_16.out))
                                                obtain ⟨ce80, hcl80, hM80, hcc80, hfr80⟩ := Kd.R_elem HX80.out z74 ((rd x11_2 x17_3) : Int) (of_decide_eq_true (by first | (with_reducible assumption) | assumption)) (by have h_ : ((rd x11_2 x17_3) : Int) < ((x16_3.length : Int) : Int) := of_decide_eq_true (by first | (with_reducible assumption) | assumption); first | exact h_ | (have e_ := (Kd.R_reads' HO_16.out).1; omega) | simpa using h_)
                                                obtain rfl := k74_openM hM80
                                                have HP80 := Kd.R_seg HX80.out ((rd x11_2 x17_3) : Int) (of_decide_eq_true (by first | (with_reducible assumption) | assumption)) (by have h_ : ((rd x11_2 x17_3) : Int) < ((x16_3.length : Int) : Int) := of_decide_eq_true (by first | (with_reducible assumption) | assumption); first | exact h_ | (have e_ := (Kd.R_reads' HO_16.out).1; omega) | simpa using h_) (seg := [.int .i64 (wrap64 (((rd_T74 x16_3 (rd x11_2 x17_3)).f2) - 1))]) (j := 2) hcl80 hcc80 (show 3 ≤ 4 from by decide) (x' := (⟨(rd_T74 x16_3 (rd x11_2 x17_3)).f0, (rd_T74 x16_3 (rd x11_2 x17_3)).f1, wrap64 (((rd_T74 x16_3 (rd x11_2 x17_3)).f2) - 1), (rd_T74 x16_3 (rd x11_2 x17_3)).f3⟩ : S74)) (k74_mkM _ _ _ (⟨(rd_T74 x16_3 (rd x11_2 x17_3)).f0, (rd_T74 x16_3 (rd x11_2 x17_3)).f1, wrap64 (((rd_T74 x16_3 (rd x11_2 x17_3)).f2) - 1), (rd_T74 x16_3 (rd x11_2 x17_3)).f3⟩ : S74) ) (fun _ hk => hk)
                                                have hx80_2 := hcc80 2 _ rfl
                                                (try simp only [show (k74).sz = 4 from rfl, Nat.mul_one, Nat.add_zero] at hx80_2)
                                                have hf80_2 := hfr80 2
                                                (try simp only [show (k74).sz = 4 from rfl, Nat.mul_one, Nat.add_zero] at hf80_2)
                                                clear hcl80 hcc80 hfr80 hM80
                                                go_wp2_with (first | ((with_reducible refine gate_store (t := 3) (p := 124) rfl ?_); refine store_event (t := 3) (p := 124) (v := ?vo_w81) (w1 := (wr.setCell ⟨go73, ((rd x11_2 x17_3) : Int).toNat * 4 + 2, none⟩ (.int .i64 (wrap64 (((rd_T74 x16_3 (rd x11_2 x17_3)).f2) - 1))))) ?hg ?ho ?hn ?hr ?_; (case ho => rfl); (case hg => rfl); (case hn => rfl); (case hr => first | (go_simp; done) | (go_simp; rfl)); intro w81 hw; have hg : wr.grownBy w81 (some go73) := (by rw [hw]; exact HP80.2); have hp_ : Kd.R k74 74 w81 w.heap.size (fun _ => True) (.slice (some ⟨go73, 0, none⟩) x16_3.length co79) y187 := (by rw [hw, Ny187.out]; exact HP80.1); clear HP80; have n0_ := Aside0.mk (Kd.R_over' (v := (.slice (some ⟨go73, 0, none⟩) x16_3.length co79)) (by (with_reducible repeat (first | apply Kd.R_alloc | apply Kd.R_drewN | apply Kd.R_drew)); exact HO_10.out) (Kd.R_typed HO_16.out) (by decide) hg); have n1_ := Aside0.mk (Kd.R_over' (v := (.slice (some ⟨go73, 0, none⟩) x16_3.length co79)) (by (with_reducible repeat (first | apply Kd.R_alloc | apply Kd.R_drewN | apply Kd.R_drew)); exact HO_11.out) (Kd.R_typed HO_16.out) (by decide) hg); have n2_ := Aside0.mk (hp_); have n3_ := Aside0.mk ((by rw [hw]; exact below_set (HB.out) GB73.out : Below w.heap.size w w81)); clear HO_10; clear HO_11; clear HO_16; clear HB; have HO_10 := n0_; have HO_11 := n1_; have HO_16 := n2_; have HB := n3_; clear n0_ n1_ n2_ n3_; clear hg hw hp_; have p188 : 0 ≤ ((ji74) : Int) := of_decide_eq_true (by first | (with_reducible assumption) | assumption); have q188 : (ji74) < (y187.length : Int) := (by have h_ : ((ji74) : Int) < ((x16_3.length : Int) : Int) := of_decide_eq_true (by first | (with_reducible assumption) | assumption); first | (have e_ := (Kd.R_reads' HO_16.out).1; omega) | simpa only [Ny187.out, List.length_set] using h_); have ql188 : (((ji74) : Int) < ((x16_3.length : Int) : Int)) = True := eq_true (of_decide_eq_true (by first | (with_reducible assumption) | assumption)); obtain ⟨ad188, e188, hx188_0, hx188_1, hx188_2, hx188_3⟩ := at_T74 (Kd.R_reads' HO_16.out).2.2 (ji74) p188 q188; obtain rfl : (⟨go73, 0, none⟩ : Addr) = ad188 := (by injection e188); (first | simp only [add_plain] at hx188_0 | simp only [add_at] at hx188_0 | simp only [Addr.add, Nat.zero_add] at hx188_0 | skip); (first | simp only [add_plain] at hx188_1 | simp only [add_at] at hx188_1 | simp only [Addr.add, Nat.zero_add] at hx188_1 | skip); (first | simp only [add_plain] at hx188_2 | simp only [add_at] at hx188_2 | simp only [Addr.add, Nat.zero_add] at hx188_2 | skip); (first | simp only [add_plain] at hx188_3 | simp only [add_at] at hx188_3 | simp only [Addr.add, Nat.zero_add] at hx188_3 | skip); replace p188 := eq_true p188; replace q188 := eq_true q188; have p77 : 0 ≤ ((ji74) : Int) := of_decide_eq_true (by first | (with_reducible assumption) | assumption); have q77 : ((ji74) : Int) < ((x16_3.length : Int) : Int) := of_decide_eq_true (by first | (with_reducible assumption) | assumption); obtain ⟨ce77, hcl77, hM77, hcc77, hfr77⟩ := Kd.R_elem HO_16.out z74 ((ji74) : Int) p77 q77; obtain rfl := k74_openM hM77; have hx77_0 : w81.cell? ⟨go73, ((ji74) : Int).toNat * 4, none⟩ = some (.int .i64 ((rd_T74 y187 (ji74)).f0)) := hcc77 0 _ rfl; have hx77_1 : w81.cell? ⟨go73, ((ji74) : Int).toNat * 4 + 1, none⟩ = some (.int .i64 ((rd_T74 y187 (ji74)).f1)) := hcc77 1 _ rfl; have hx77_2 : w81.cell? ⟨go73, ((ji74) : Int).toNat * 4 + 2, none⟩ = some (.int .i64 ((rd_T74 y187 (ji74)).f2)) := hcc77 2 _ rfl; have hx77_3 : w81.cell? ⟨go73, ((ji74) : Int).toNat * 4 + 3, none⟩ = some (.int .i64 ((rd_T74 y187 (ji74)).f3)) := hcc77 3 _ rfl; have hf77_0 : w81.frozen? ⟨go73, ((ji74) : Int).toNat * 4, none⟩ = false := hfr77 0; have hf77_1 : w81.frozen? ⟨go73, ((ji74) : Int).toNat * 4 + 1, none⟩ = false := hfr77 1; have hf77_2 : w81.frozen? ⟨go73, ((ji74) : Int).toNat * 4 + 2, none⟩ = false := hfr77 2; have hf77_3 : w81.frozen? ⟨go73, ((ji74) : Int).toNat * 4 + 3, none⟩ = false := hfr77 3; clear hcl77 hcc77 hfr77 hM77; replace p77 := eq_true p77; replace q77 := eq_true q77; have HX82 := Aside0.mk (show Kd.R k74 74 w81 w.heap.size (fun _ => True) (.slice (some ⟨go73, 0, none⟩) x16_3.length co79) y187 from (by (with_reducible repeat (first | apply Kd.R_alloc | apply Kd.R_drewN | apply Kd.R_drew)); exact HO_16.out)); obtain ⟨ce82, hcl82, hM82, hcc82, hfr82⟩ := Kd.R_elem HX82.out z74 ((ji74) : Int) (of_decide_eq_true (by first | (with_reducible assumption) | assumption)) (by have h_ : ((ji74) : Int) < ((x16_3.length : Int) : Int) := of_decide_eq_true (by first | (with_reducible assumption) | assumption); first | exact h_ | (have e_ := (Kd.R_reads' HO_16.out).1; omega) | simpa using h_); obtain rfl := k74_openM hM82; have HP82 := Kd.R_seg HX82.out ((ji74) : Int) (of_decide_eq_true (by first | (with_reducible assumption) | assumption)) (by have h_ : ((ji74) : Int) < ((x16_3.length : Int) : Int) := of_decide_eq_true (by first | (with_reducible assumption) | assumption); first | exact h_ | (have e_ := (Kd.R_reads' HO_16.out).1; omega) | simpa using h_) (seg := [.int .i64 (wrap64 (((rd_T74 y187 (ji74)).f2) + 1))]) (j := 2) hcl82 hcc82 (show 3 ≤ 4 from by decide) (x' := (⟨(rd_T74 y187 (ji74)).f0, (rd_T74 y187 (ji74)).f1, wrap64 (((rd_T74 y187 (ji74)).f2) + 1), (rd_T74 y187 (ji74)).f3⟩ : S74)) (k74_mkM _ _ _ (⟨(rd_T74 y187 (ji74)).f0, (rd_T74 y187 (ji74)).f1, wrap64 (((rd_T74 y187 (ji74)).f2) + 1), (rd_T74 y187 (ji74)).f3⟩ : S74) ) (fun _ hk => hk); have hx82_2 := hcc82 2 _ rfl; (try simp only [show (k74).sz = 4 from rfl, Nat.mul_one, Nat.add_zero] at hx82_2); have hf82_2 := hfr82 2; (try simp only [show (k74).sz = 4 from rfl, Nat.mul_one, Nat.add_zero] at hf82_2); clear hcl82 hcc82 hfr82 hM82) | ((with_reducible refine gate_store (t := 3) (p := 134) rfl ?_); refine store_event (t := 3) (p := 134) (v := ?vo_w83) (w1 := (w81.setCell ⟨go73, ((ji74) : Int).toNat * 4 + 2, none⟩ (.int .i64 (wrap64 (((rd_T74 y187 (ji74)).f2) + 1))))) ?hg ?ho ?hn ?hr ?_; (case ho => rfl); (case hg => rfl); (case hn => rfl); (case hr => first | (go_simp; done) | (go_simp; rfl)); intro w83 hw; have hg : w81.grownBy w83 (some go73) := (by rw [hw]; exact HP82.2); have hp_ : Kd.R k74 74 w83 w.heap.size (fun _ => True) (.slice (some ⟨go73, 0, none⟩) x16_3.length co79) y189 := (by rw [hw, Ny189.out]; exact HP82.1); clear HP82; have n0_ := Aside0.mk (Kd.R_over' (v := (.slice (some ⟨go73, 0, none⟩) x16_3.length co79)) (by (with_reducible repeat (first | apply Kd.R_alloc | apply Kd.R_drewN | apply Kd.R_drew)); exact HO_10.out) (Kd.R_typed HO_16.out) (by decide) hg); have n1_ := Aside0.mk (Kd.R_over' (v := (.slice (some ⟨go73, 0, none⟩) x16_3.length co79)) (by (with_reducible repeat (first | apply Kd.R_alloc | apply Kd.R_drewN | apply Kd.R_drew)); exact HO_11.out) (Kd.R_typed HO_16.out) (by decide) hg); have n2_ := Aside0.mk (hp_); have n3_ := Aside0.mk ((by rw [hw]; exact below_set (HB.out) GB73.out : Below w.heap.size w w83)); clear HO_10; clear HO_11; clear HO_16; clear HB; have HO_10 := n0_; have HO_11 := n1_; have HO_16 := n2_; have HB := n3_; clear n0_ n1_ n2_ n3_; clear hg hw hp_; have p190 : 0 ≤ ((rd x11_2 x17_3) : Int) := of_decide_eq_true (by first | (with_reducible assumption) | assumption); have q190 : (rd x11_2 x17_3) < (y189.length : Int) := (by have h_ : ((rd x11_2 x17_3) : Int) < ((x16_3.length : Int) : Int) := of_decide_eq_true (by first | (with_reducible assumption) | assumption); first | (have e_ := (Kd.R_reads' HO_16.out).1; omega) | simpa only [Ny187.out, Ny189.out, List.length_set] using h_); have ql190 : (((rd x11_2 x17_3) : Int) < ((x16_3.length : Int) : Int)) = True := eq_true (of_decide_eq_true (by first | (with_reducible assumption) | assumption)); obtain ⟨ad190, e190, hx190_0, hx190_1, hx190_2, hx190_3⟩ := at_T74 (Kd.R_reads' HO_16.out).2.2 (rd x11_2 x17_3) p190 q190; obtain rfl : (⟨go73, 0, none⟩ : Addr) = ad190 := (by injection e190); (first | simp only [add_plain] at hx190_0 | simp only [add_at] at hx190_0 | simp only [Addr.add, Nat.zero_add] at hx190_0 | skip); (first | simp only [add_plain] at hx190_1 | simp only [add_at] at hx190_1 | simp only [Addr.add, Nat.zero_add] at hx190_1 | skip); (first | simp only [add_plain] at hx190_2 | simp only [add_at] at hx190_2 | simp only [Addr.add, Nat.zero_add] at hx190_2 | skip); (first | simp only [add_plain] at hx190_3 | simp only [add_at] at hx190_3 | simp only [Addr.add, Nat.zero_add] at hx190_3 | skip); replace p190 := eq_true p190; replace q190 := eq_true q190))
                                                go_roundg k3
                                                case measure => have := HK1.out; have := HK2.out; have := HK3.out; omega
                                                case rel => exact ⟨(y189), ((rd_T74 y189 (rd x11_2 x17_3)).f0), (by first | rfl | (simp; done) | (simp [*]; done)), H', ⟨by have := HK1.out; have := HK2.out; have := HK3.out; omega⟩, ⟨by (try simp only [hl10_2]); (with_reducible repeat (first | apply Kd.R_alloc | apply Kd.R_drewN | apply Kd.R_drew)); exact HO_10.out⟩, ⟨by (try simp only [hl10_2]); (with_reducible repeat (first | apply Kd.R_alloc | apply Kd.R_drewN | apply Kd.R_drew)); exact HO_11.out⟩, ⟨by (try simp only [hl10_2]); (with_reducible repeat (first | apply Kd.R_alloc | apply Kd.R_drewN | apply Kd.R_drew)); exact HO_16.out⟩, ⟨by repeat (first | (with_reducible first | exact HB.out | apply below_alloc | apply pw_below_drewN | apply below_drew1) | exact HB.out)⟩⟩
                                              · rw [if_neg c76] at H
                                                exact absurd H (by simp)
                                            · rw [if_neg c75] at H
                                              exact absurd H (by simp)
                                          · rw [if_neg c72] at H
                                            exact absurd H (by simp)
                                        · rw [if_neg c71] at H
                                          exact absurd H (by simp)
                                      · rw [if_neg c70] at H
                                        exact absurd H (by simp)
                                    · rw [if_neg c69] at H
                                      exact absurd H (by simp)
                            · rw [if_neg c64] at H
                              exact absurd H (by simp)
                        · rw [if_neg c62] at H
                          exact absurd H (by simp)
                      · rw [if_neg c61] at H
                        exact absurd H (by simp)
              · rw [if_neg c22] at H
                exact absurd H (by simp)
            · rw [if_neg c21] at H
              exact absurd H (by simp)
    · rw [if_neg c6] at H
      exact absurd H (by simp)
  · rw [if_neg c5] at H
    exact absurd H (by simp)
end Go.Proofs.Ytpjobcnfjpbaeaa.PA

namespace Go.Proofs.Ytpjobcnfjpbaeaa.M
open Go.RowKit Go.Proofs.YtpjobcnfjpbaeaaW.PrintWords Go.Proofs.YtpjobcnfjpbaeaaW.PrintLast Go.Proofs.YtpjobcnfjpbaeaaW.PrintMore
open Go.Proofs.Ytpjobcnfjpbaeaa.PA
structure RepT (P : Pairs) (φ : Nat → Int) (arcs : List S74) : Prop where
  len : arcs.length = 2 * P.n
  fwd : ∀ j, j < P.n → arcs[2 * j]? = some ⟨P.F j, P.T j, P.c j - φ j, -P.g j⟩
  bwd : ∀ j, j < P.n → arcs[2 * j + 1]? = some ⟨P.T j, P.F j, φ j, P.g j⟩
theorem RepT.get {P : Pairs} {φ : Nat → Int} {arcs : List S74} (h : RepT P φ arcs) {i : Nat} (hi : i < arcs.length) : ∃ (u v : Nat) (r x : Int), arcs[i]? = some ⟨u, v, r, -x⟩ ∧ i / 2 < P.n ∧ (u = P.F (i / 2) ∧ v = P.T (i / 2) ∨ u = P.T (i / 2) ∧ v = P.F (i / 2)) ∧ (0 < r ↔ P.Res φ i u v x) ∧ (x = P.g (i / 2) ∨ x = -P.g (i / 2)) := by
  have h2 : i / 2 < P.n := by have := h.len; omega
  rcases Nat.mod_two_eq_zero_or_one i with e | e
  · have := h.fwd _ h2
    rw [show 2 * (i / 2) = i by omega] at this
    refine ⟨_, _, _, _, this, h2, Or.inl ⟨rfl, rfl⟩, ?_, Or.inl rfl⟩
    constructor
    · intro hr; exact ⟨h2, Or.inl ⟨e, rfl, rfl, rfl, by omega⟩⟩
    · rintro ⟨_, ⟨_, _, _, _, hr⟩ | ⟨e', _⟩⟩
      · omega
      · omega
  · have := h.bwd _ h2
    rw [show 2 * (i / 2) + 1 = i by omega] at this
    refine ⟨P.T (i / 2), P.F (i / 2), φ (i / 2), -P.g (i / 2), by rw [this, Int.neg_neg], h2, Or.inr ⟨rfl, rfl⟩, ?_, Or.inr rfl⟩
    constructor
    · intro hr; exact ⟨h2, Or.inr ⟨e, rfl, rfl, rfl, hr⟩⟩
    · rintro ⟨_, ⟨e', _⟩ | ⟨_, _, _, _, hr⟩⟩
      · omega
      · exact hr
theorem RepT.arc {P : Pairs} {φ : Nat → Int} {arcs : List S74} (h : RepT P φ arcs) {i u v : Nat} {x : Int} (hr : P.Res φ i u v x) : ∃ r : Int, 0 < r ∧ arcs[i]? = some ⟨u, v, r, -x⟩ := by
  obtain ⟨h1, h2⟩ := hr
  rcases h2 with ⟨e, rfl, rfl, rfl, h3⟩ | ⟨e, rfl, rfl, rfl, h3⟩
  · refine ⟨_, ?_, by have := h.fwd _ h1; rw [show 2 * (i / 2) = i by omega] at this; exact this⟩; omega
  · refine ⟨_, h3, by have := h.bwd _ h1; rw [show 2 * (i / 2) + 1 = i by omega] at this; rw [Int.neg_neg]; exact this⟩
def gn (best : List Int) : Nat → Int := fun v => -(best.getD v 0)
end Go.Proofs.Ytpjobcnfjpbaeaa.M

namespace Go.Proofs.Ytpjobcnfjpbaeaa.M
open Go.RowKit Go.Proofs.YtpjobcnfjpbaeaaW.PrintWords Go.Proofs.YtpjobcnfjpbaeaaW.PrintLast Go.Proofs.YtpjobcnfjpbaeaaW.PrintMore
open Go.Proofs.Ytpjobcnfjpbaeaa.PA Go.Proofs.Ytpjobcnfjpbaeaa.A
structure Rep (P : Pairs) (φ : Nat → Int) (arcs : List S106) : Prop where
  len : arcs.length = 2 * P.n
  fwd : ∀ j, j < P.n → arcs[2 * j]? = some ⟨P.F j, P.T j, P.c j - φ j, P.g j⟩
  bwd : ∀ j, j < P.n → arcs[2 * j + 1]? = some ⟨P.T j, P.F j, φ j, -P.g j⟩
theorem Rep.get {P : Pairs} {φ : Nat → Int} {arcs : List S106} (h : Rep P φ arcs) {i : Nat} {a : S106} (hi : arcs[i]? = some a) :
    i / 2 < P.n ∧ ((i % 2 = 0 ∧ a = ⟨P.F (i / 2), P.T (i / 2), P.c (i / 2) - φ (i / 2), P.g (i / 2)⟩) ∨ (i % 2 = 1 ∧ a = ⟨P.T (i / 2), P.F (i / 2), φ (i / 2), -P.g (i / 2)⟩)) := by
  have h1 : i < arcs.length := (List.getElem?_eq_some_iff.1 hi).1
  have h2 : i / 2 < P.n := by have := h.len; omega
  refine ⟨h2, ?_⟩
  rcases Nat.mod_two_eq_zero_or_one i with e | e
  · left
    refine ⟨e, ?_⟩
    have := h.fwd _ h2
    rw [show 2 * (i / 2) = i by omega, hi] at this
    exact Option.some.inj this
  · right
    refine ⟨e, ?_⟩
    have := h.bwd _ h2
    rw [show 2 * (i / 2) + 1 = i by omega, hi] at this
    exact Option.some.inj this
theorem Rep.res {P : Pairs} {φ : Nat → Int} {arcs : List S106} (h : Rep P φ arcs) {i : Nat} {a : S106} (hi : arcs[i]? = some a) (hr : 0 < a.f2) : ∃ u v : Nat, a.f0 = u ∧ a.f1 = v ∧ P.Res φ i u v a.f3 := by
  obtain ⟨h1, h2⟩ := h.get hi
  rcases h2 with ⟨e, rfl⟩ | ⟨e, rfl⟩
  · exact ⟨_, _, rfl, rfl, h1, Or.inl ⟨e, rfl, rfl, rfl, by simp only at hr; omega⟩⟩
  · exact ⟨_, _, rfl, rfl, h1, Or.inr ⟨e, rfl, rfl, rfl, hr⟩⟩
theorem Rep.arc {P : Pairs} {φ : Nat → Int} {arcs : List S106} (h : Rep P φ arcs) {i u v : Nat} {x : Int} (hr : P.Res φ i u v x) : ∃ r : Int, 0 < r ∧ arcs[i]? = some ⟨u, v, r, x⟩ := by
  obtain ⟨h1, h2⟩ := hr
  rcases h2 with ⟨e, rfl, rfl, rfl, h3⟩ | ⟨e, rfl, rfl, rfl, h3⟩
  · refine ⟨_, ?_, by have := h.fwd _ h1; rw [show 2 * (i / 2) = i by omega] at this; exact this⟩; omega
  · refine ⟨_, h3, by have := h.bwd _ h1; rw [show 2 * (i / 2) + 1 = i by omega] at this; exact this⟩
def gf (g : List Int) : Nat → Int := fun v => g.getD v 0
def bf (b : List Int) : Nat → Nat := fun v => (b.getD v 0).toNat
theorem gf_set {g : List Int} {k : Nat} (h : k < g.length) (x : Int) : gf (g.set k x) = upd (gf g) k x := by
  funext v
  unfold gf upd
  by_cases e : v = k
  · subst e; simp [h]
  · simp [e, List.getD_eq_getElem?_getD, List.getElem?_set_ne (Ne.symm e)]
theorem bf_set {b : List Int} {k : Nat} (h : k < b.length) (x : Nat) : bf (b.set k x) = upd (bf b) k x := by
  funext v
  unfold bf upd
  by_cases e : v = k
  · subst e; simp [h]
  · simp [e, List.getD_eq_getElem?_getD, List.getElem?_set_ne (Ne.symm e)]
theorem gt0_nat (g : List Int) (v : Nat) : gt0 g (v : Int) = gf g v := by unfold gt0 gf; rw [Int.toNat_natCast]
abbrev FAR : Int := -1099511627776
theorem imp_iff {m : Nat} {U : Nat → Int} {g : List Int} (hm : m ≤ 400) (hb : Bnd m FAR U (gf g)) {u v : Nat} {r x : Int} (hu : u < m) (hx : -1000000 ≤ x ∧ x ≤ 1000000) (hU : ∀ v, v < m → U v ≤ 1000000000) :
    imp g ⟨u, v, r, x⟩ = true ↔ 0 < r ∧ gf g u ≠ FAR ∧ gf g v < gf g u + x := by
  unfold imp
  simp only [gt0_nat, Bool.and_eq_true, decide_eq_true_eq, i64_w]
  by_cases hf : gf g u = FAR
  · simp [hf]
  · have h1 := hb.low hu hf
    have h2 := hU u hu
    have h3 : wrap64 (gf g u + x) = gf g u + x := by unfold wrap64; omega
    rw [h3]
    constructor
    · rintro ⟨a, b, c⟩; exact ⟨a, hf, c⟩
    · rintro ⟨a, b, c⟩; refine ⟨a, ?_, c⟩; show (-1099511627776 : Int) < _; omega
theorem relaxF_mono {k : Nat} {arcs : List S106} : ∀ {g b r}, relaxF k arcs g b = some r → relaxF (k + 1) arcs g b = some r := by
  induction k with
  | zero => intro g b r h; simp [relaxF] at h
  | succ k ih =>
    intro g b r h
    rw [relaxF] at h ⊢
    split at h
    · exact h
    · exact ih h
theorem relaxF_le {k k' : Nat} (hk : k ≤ k') {arcs : List S106} {g b : List Int} {r : List Int × List Int} (h : relaxF k arcs g b = some r) : relaxF k' arcs g b = some r := by
  obtain ⟨d, rfl⟩ := Nat.exists_eq_add_of_le hk
  clear hk
  induction d with
  | zero => exact h
  | succ d ih => exact relaxF_mono ih
structure Relaxed (P : Pairs) (φ : Nat → Int) (m : Nat) (U : Nat → Int) (g b g' b' : List Int) : Prop where
  lg : g'.length = m
  lb : b'.length = m
  bnd : Bnd m FAR U (gf g')
  done : Done (P.Res φ) FAR (gf g')
  nb : ∀ v, 0 ≤ b'.getD v 0
  up : ∀ v, gf g v ≤ gf g' v
  tree : ∀ r, Tree m (P.Res φ) FAR r U (gf g) (bf b) → Tree m (P.Res φ) FAR r U (gf g') (bf b')
theorem relaxF_ends {P : Pairs} {φ : Nat → Int} {arcs : List S106} {m : Nat} {U : Nat → Int} (hR : Rep P φ arcs) (hP : P.Ok m) (hm : m ≤ 400) (hfe : ∀ i u v g, P.Res φ i u v g → U u + g ≤ U v)
    (hU : ∀ v, v < m → -1000000000 ≤ U v ∧ U v ≤ 1000000000) : ∀ (N : Nat) (g b : List Int), g.length = m → b.length = m → (∀ v, 0 ≤ b.getD v 0) → Bnd m FAR U (gf g) → slack m U (gf g) < N →
    ∃ g' b', relaxF N arcs g b = some (g', b') ∧ Relaxed P φ m U g b g' b' := by
  intro N
  induction N with
  | zero =>
    intro g b hg _ _ hb hs
    exfalso
    have : 0 ≤ slack m U (gf g) := sumTo_nonneg (fun v hv => by
      show 0 ≤ U v - gf g v
      have := hU v hv
      have hF : FAR = -1099511627776 := rfl
      rcases hb v hv with e | e
      · rw [e, hF]; omega
      · omega)
    omega
  | succ N ih =>
    intro g b hg hbl hnb hb hs
    rw [relaxF]
    cases hc : arcs.findIdx? (imp g) with
    | none =>
      refine ⟨g, b, rfl, hg, hbl, hb, ?_, hnb, fun _ => Int.le_refl _, fun r h => h⟩
      intro i u v x hr hf
      obtain ⟨r, hr0, ha⟩ := hR.arc hr
      rw [List.findIdx?_eq_none_iff] at hc
      have h1 := hc _ (List.mem_of_getElem? ha)
      rcases Int.lt_or_le (gf g v) (gf g u + x) with h | h
      · have h2 := (imp_iff hm hb ((hP.net φ).lt hr).1 ((hP.net φ).gain hr) (fun v hv => (hU v hv).2) (v := v) (r := r)).2 ⟨hr0, hf, h⟩
        rw [h2] at h1
        cases h1
      · exact h
    | some i =>
      rw [List.findIdx?_eq_some_iff_getElem] at hc
      obtain ⟨hi, hp, _⟩ := hc
      obtain ⟨a, ha⟩ : ∃ a, arcs[i]? = some a := ⟨_, List.getElem?_eq_getElem hi⟩
      have hp : imp g a = true := by rw [List.getElem?_eq_getElem hi] at ha; rw [← Option.some.inj ha]; exact hp
      have hd : arcs.getD i z106 = a := by simp [ha]
      simp only [hd]
      have hr0 : 0 < a.f2 := by
        unfold imp at hp
        simp only [Bool.and_eq_true, decide_eq_true_eq] at hp
        exact hp.1
      obtain ⟨u, v, e0, e1, hres⟩ := hR.res ha hr0
      obtain ⟨hu, hv⟩ := (hP.net φ).lt hres
      have hx := (hP.net φ).gain hres
      obtain ⟨f0, f1, f2, f3⟩ := a
      simp only at e0 e1 hres hx hr0
      subst e0 e1
      obtain ⟨_, hf, hlt⟩ := (imp_iff hm hb hu hx (fun v hv => (hU v hv).2)).1 hp
      have h1 := hb.low hu hf
      have h2 := hU u hu
      have hw : IntKind.i64.wrap (gf g u + f3) = gf g u + f3 := by rw [i64_w]; unfold wrap64; omega
      simp only [gt0_nat, hw, Int.toNat_natCast]
      obtain ⟨hb', hs'⟩ := hb.step (by omega) (by decide) hu hv hx (hfe _ _ _ _ hres) hf hlt
      have eg : gf (g.set v (gf g u + f3)) = upd (gf g) v (gf g u + f3) := gf_set (by omega) _
      have eb : bf (b.set v (i : Int)) = upd (bf b) v i := bf_set (by omega) i
      obtain ⟨g', b', h3, h4⟩ := ih (g.set v (gf g u + f3)) (b.set v (i : Int)) (by simpa using hg) (by simpa using hbl) (fun w => by
        by_cases e : w = v
        · subst e; simp [hbl, hv]
        · have := hnb w; simpa [List.getD_eq_getElem?_getD, List.getElem?_set_ne (Ne.symm e)] using this) (by rw [eg]; exact hb') (by rw [eg]; omega)
      refine ⟨g', b', h3, h4.lg, h4.lb, h4.bnd, h4.done, h4.nb, fun w => ?_, fun r ht => h4.tree r ?_⟩
      · have h5 := h4.up w
        rw [eg] at h5
        by_cases e : w = v
        · subst e; rw [upd_same] at h5; omega
        · rw [upd_ne e] at h5; exact h5
      rw [eg, eb]
      exact ht.step (hP.net φ) hb (by omega) (by decide) hfe hres hf hlt
theorem send2_rep {P : Pairs} {φ : Nat → Int} {arcs : List S106} {i u v : Nat} {x : Int} (hR : Rep P φ arcs) (hr : P.Res φ i u v x) (hc : P.Cap φ) (hcb : ∀ j, j < P.n → P.c j ≤ 1000000000) :
    ∃ arcs', send2 arcs i = some arcs' ∧ Rep P (send φ i) arcs' := by
  obtain ⟨hi, hr'⟩ := hr
  have h0 := hc _ hi
  have hb := hcb _ hi
  have hl := hR.len
  have hf := hR.fwd _ hi
  have hw := hR.bwd _ hi
  have wr : ∀ z : Int, -10000000000 ≤ z → z ≤ 10000000000 → wrap64 z = z := fun z h1 h2 => by unfold wrap64; omega
  have far : ∀ (j k k' : Nat) (A B : S106), j / 2 ≠ i / 2 → k / 2 = i / 2 → k' / 2 = i / 2 → ((arcs.set k A).set k' B)[j]? = arcs[j]? := by
    intro j k k' A B h1 h2 h3
    rw [List.getElem?_set_ne (by rintro rfl; omega), List.getElem?_set_ne (by rintro rfl; omega)]
  rcases hr' with ⟨e, _, _, _, h3⟩ | ⟨e, _, _, _, h3⟩
  · rw [show 2 * (i / 2) = i by omega] at hf
    rw [show 2 * (i / 2) + 1 = i + 1 by omega] at hw
    have ht : twin i = i + 1 := by unfold twin; rw [if_pos e]
    unfold send2
    simp only [ht, hf, hw]
    refine ⟨_, rfl, by simpa using hl, fun j hj => ?_, fun j hj => ?_⟩
    · by_cases ej : j = i / 2
      · subst ej
        rw [show 2 * (i / 2) = i by omega, List.getElem?_set_ne (by omega), List.getElem?_set_self (by omega), wr _ (by omega) (by omega)]
        simp only [send, upd_same, if_pos e]
        rw [show P.c (i / 2) - φ (i / 2) - 1 = P.c (i / 2) - (φ (i / 2) + 1) by omega]
      · rw [far _ _ _ _ _ (by omega) (by omega) (by omega)]
        simp only [send, upd_ne ej]
        exact hR.fwd j hj
    · by_cases ej : j = i / 2
      · subst ej
        rw [show 2 * (i / 2) + 1 = i + 1 by omega, List.getElem?_set_self (by simp; omega), wr _ (by omega) (by omega)]
        simp only [send, upd_same, if_pos e]
      · rw [far _ _ _ _ _ (by omega) (by omega) (by omega)]
        simp only [send, upd_ne ej]
        exact hR.bwd j hj
  · rw [show 2 * (i / 2) = i - 1 by omega] at hf
    rw [show 2 * (i / 2) + 1 = i by omega] at hw
    have ht : twin i = i - 1 := by unfold twin; rw [if_neg (by omega)]
    unfold send2
    simp only [ht, hf, hw]
    refine ⟨_, rfl, by simpa using hl, fun j hj => ?_, fun j hj => ?_⟩
    · by_cases ej : j = i / 2
      · subst ej
        rw [show 2 * (i / 2) = i - 1 by omega, List.getElem?_set_self (by simp; omega), wr _ (by omega) (by omega)]
        simp only [send, upd_same, if_neg (show ¬ i % 2 = 0 by omega)]
        rw [show P.c (i / 2) - φ (i / 2) + 1 = P.c (i / 2) - (φ (i / 2) - 1) by omega]
      · rw [far _ _ _ _ _ (by omega) (by omega) (by omega)]
        simp only [send, upd_ne ej]
        exact hR.fwd j hj
    · by_cases ej : j = i / 2
      · subst ej
        rw [show 2 * (i / 2) + 1 = i by omega, List.getElem?_set_ne (by omega), List.getElem?_set_self (by omega), wr _ (by omega) (by omega)]
        simp only [send, upd_same, if_neg (show ¬ i % 2 = 0 by omega)]
      · rw [far _ _ _ _ _ (by omega) (by omega) (by omega)]
        simp only [send, upd_ne ej]
        exact hR.bwd j hj
theorem wayF_rep {P : Pairs} {m : Nat} (hP : P.Ok m) {φ0 d : Nat → Int} {b : List Int} {r : Nat} (hbl : b.length = m) (hr : r < m) (hnb : ∀ v, 0 ≤ b.getD v 0) (hcb : ∀ j, j < P.n → P.c j ≤ 1000000000) :
    ∀ {n v φ arcs}, Walk P φ0 d (bf b) r n v φ → Rep P φ arcs → ∃ arcs', (∀ k, n < k → wayF k arcs b v r = some arcs') ∧ Rep P (pushes P (bf b) n φ v) arcs' := by
  intro n
  induction n with
  | zero =>
    intro v φ arcs hw hR
    have e : v = r := hw.at_
    subst e
    refine ⟨arcs, fun k hk => ?_, hR⟩
    obtain ⟨k, rfl⟩ : ∃ k', k = k' + 1 := ⟨k - 1, by omega⟩
    rw [wayF, if_pos rfl]
  | succ n ih =>
    intro v φ arcs hw hR
    obtain ⟨u, y, h1, h2, h3⟩ := hw.step hP
    have hvm := ((hP.net φ).lt h1).2
    have hvr : v ≠ r := hw.at_.1
    obtain ⟨arcs1, h4, h5⟩ := send2_rep hR h1 hw.cap hcb
    obtain ⟨arcs', h6, h7⟩ := ih h3 h5
    have hget : ∃ r' : Int, arcs1[bf b v]? = some ⟨u, v, r', y⟩ := by
      obtain ⟨hi, h8⟩ := h1
      have hf := h5.fwd _ hi
      have hw' := h5.bwd _ hi
      rcases h8 with ⟨e, e1, e2, e3, _⟩ | ⟨e, e1, e2, e3, _⟩
      · rw [show 2 * (bf b v / 2) = bf b v by omega, ← e1, ← e2, ← e3] at hf; exact ⟨_, hf⟩
      · rw [show 2 * (bf b v / 2) + 1 = bf b v by omega, ← e1, ← e2, ← e3] at hw'; exact ⟨_, hw'⟩
    obtain ⟨r', hget⟩ := hget
    refine ⟨arcs', fun k hk => ?_, ?_⟩
    · obtain ⟨k, rfl⟩ : ∃ k', k = k' + 1 := ⟨k - 1, by omega⟩
      rw [wayF, if_neg (by omega)]
      have hb0 : gt0 b (v : Int) = (b.getD v 0) := by unfold gt0; rw [Int.toNat_natCast]
      have hbf : (gt0 b (v : Int)).toNat = bf b v := by rw [hb0]; rfl
      rw [if_pos ⟨by omega, by omega, by rw [hb0]; exact hnb v⟩, hbf, h4]
      simp only [Option.bind_some, hget]
      exact h6 k (by omega)
    · simp only [pushes, h1.tail]
      exact h7
end Go.Proofs.Ytpjobcnfjpbaeaa.M

namespace Go.Proofs.Ytpjobcnfjpbaeaa.M
open Go.RowKit Go.Proofs.YtpjobcnfjpbaeaaW.PrintWords Go.Proofs.YtpjobcnfjpbaeaaW.PrintLast Go.Proofs.YtpjobcnfjpbaeaaW.PrintMore
open Go.Proofs.Ytpjobcnfjpbaeaa.PA Go.Proofs.Ytpjobcnfjpbaeaa.A
theorem Rep.push {P : Pairs} {φ : Nat → Int} {arcs : List S106} (h : Rep P φ arcs) (f t : Nat) (g c y r : Int) (hr : r = c - y) (hg : -1000000 ≤ g ∧ g ≤ 1000000) : Rep (P.push f t g c) (upd φ P.n y) (addF arcs f t r g y) := by
  have hw : IntKind.i64.wrap (-g) = -g := by rw [i64_w]; unfold wrap64; omega
  have hl := h.len
  subst hr
  unfold addF
  rw [hw]
  refine ⟨by simp [Pairs.push, hl]; omega, fun j hj => ?_, fun j hj => ?_⟩
  · simp only [Pairs.push] at hj ⊢
    by_cases e : j = P.n
    · subst e
      simp only [upd_same]
      rw [List.getElem?_append_right (by omega), hl]
      simp
    · simp only [upd_ne e]
      rw [List.getElem?_append_left (by omega)]
      exact h.fwd j (by omega)
  · simp only [Pairs.push] at hj ⊢
    by_cases e : j = P.n
    · subst e
      simp only [upd_same]
      rw [List.getElem?_append_right (by omega), hl, show 2 * P.n + 1 - 2 * P.n = 1 by omega]
      simp
    · simp only [upd_ne e]
      rw [List.getElem?_append_left (by omega)]
      exact h.bwd j (by omega)
theorem send2_more {arcs arcs' rest : List S106} {i : Nat} (h : send2 arcs i = some arcs') : send2 (arcs ++ rest) i = some (arcs' ++ rest) := by
  unfold send2 at h ⊢
  cases h1 : arcs[i]? with
  | none => simp [h1] at h
  | some x =>
    cases h2 : arcs[twin i]? with
    | none => simp [h1, h2] at h
    | some y =>
      have l1 := (List.getElem?_eq_some_iff.1 h1).1
      have l2 := (List.getElem?_eq_some_iff.1 h2).1
      simp only [h1, h2, Option.some.injEq] at h
      rw [List.getElem?_append_left l1, List.getElem?_append_left l2, h1, h2]
      simp only [Option.some.injEq]
      rw [← h, List.set_append_left _ _ l1, List.set_append_left _ _ (by simpa using l2)]
theorem wayF_more {rest : List S106} {b : List Int} {t : Int} : ∀ {k : Nat} {arcs arcs' : List S106} {v : Int}, wayF k arcs b v t = some arcs' → wayF k (arcs ++ rest) b v t = some (arcs' ++ rest) := by
  intro k
  induction k with
  | zero => intro arcs arcs' v h; simp [wayF] at h
  | succ k ih =>
    intro arcs arcs' v h
    rw [wayF] at h ⊢
    split at h
    · rename_i e; rw [if_pos e]; simp only [Option.some.injEq] at h ⊢; rw [h]
    · rename_i e
      rw [if_neg e]
      split at h
      · rename_i e2
        rw [if_pos e2]
        obtain ⟨a1, h1, h2⟩ := Option.bind_eq_some_iff.1 h
        rw [send2_more h1]
        simp only [Option.bind_some]
        cases h3 : a1[(gt0 b v).toNat]? with
        | none => simp [h3] at h2
        | some a =>
          simp only [h3] at h2
          rw [List.getElem?_append_left (List.getElem?_eq_some_iff.1 h3).1, h3]
          exact ih h2
      · cases h
theorem rep0 (m v : Nat) : 0 ≤ (List.replicate m (0 : Int)).getD v 0 := by
  simp only [List.getD_eq_getElem?_getD, List.getElem?_replicate]; split <;> simp
theorem takeF_ok {P : Pairs} {φ : Nat → Int} {arcs : List S106} {n : Nat} (hn : n ≤ 300) (hR : Rep P φ arcs) (hP : P.Ok (n + 1)) (hc : P.Cap φ) (hcb : ∀ j, j < P.n → P.c j ≤ 100000000) (hf : ∃ d, P.Feas φ d)
    {f t : Nat} {p : Int} (hft : f ≤ n ∧ t ≤ n) (hp : 0 ≤ p ∧ p ≤ 1000000) :
    ∃ K φ' arcs', (∀ k, K ≤ k → takeF k n arcs f t p = some arcs') ∧ Rep (P.push f t p 1) φ' arcs' ∧ (P.push f t p 1).Cap φ' ∧ (∃ d, (P.push f t p 1).Feas φ' d) ∧ ∀ χ, (P.push f t p 1).div φ' χ = P.div φ χ := by
  obtain ⟨d0, hd0⟩ := hf
  obtain ⟨π, hπ, hπb⟩ := small_pot hP hd0
  have hFAR : FAR = -1099511627776 := rfl
  have hft1 : t < n + 1 := by omega
  have e0 : ∀ v, v < n + 1 → gf ((List.replicate (n + 1) FAR).set t 0) v = if v = t then 0 else FAR := by
    intro v hv
    rw [gf_set (by simpa using hft1)]
    unfold upd
    split
    · rfl
    · simp [gf, List.getElem?_replicate, hv]
  have e0t : gf ((List.replicate (n + 1) FAR).set t 0) t = 0 := by rw [e0 t hft1, if_pos rfl]
  have hb0 : Bnd (n + 1) FAR (fun v => π v - π t) (gf ((List.replicate (n + 1) FAR).set t 0)) := by
    intro v hv
    have := (cnt_bd (n + 1) FAR (gf ((List.replicate (n + 1) FAR).set t 0))).1
    rw [e0 v hv]
    by_cases e : v = t
    · subst e; rw [if_pos rfl]; right; exact ⟨by omega, by show (0 : Int) ≤ π v - π v; omega⟩
    · rw [if_neg e]; left; trivial
  have ht0 : Tree (n + 1) (P.Res φ) FAR t (fun v => π v - π t) (gf ((List.replicate (n + 1) FAR).set t 0)) (bf (List.replicate (n + 1) 0)) := by
    refine ⟨⟨e0t, by omega⟩, fun v hv hne => ?_, fun v hv hne => ?_⟩
    · rw [e0 v hv] at hne
      by_cases e : v = t
      · exact Or.inl e
      · rw [if_neg e] at hne; exact absurd rfl hne
    · rw [e0 v hv] at hne
      by_cases e : v = t
      · exact ⟨0, e⟩
      · rw [if_neg e] at hne; exact absurd rfl hne
  obtain ⟨N, hN⟩ : ∃ N : Nat, slack (n + 1) (fun v => π v - π t) (gf ((List.replicate (n + 1) FAR).set t 0)) < N := ⟨(slack (n + 1) (fun v => π v - π t) (gf ((List.replicate (n + 1) FAR).set t 0)) + 1).toNat, by omega⟩
  have hπt := hπb t hft1
  obtain ⟨g', b', hrel, hx⟩ := relaxF_ends hR hP (by omega) (U := fun v => π v - π t) (fun i u v g h => by have := hπ i u v g h; omega) (fun v hv => by have := hπb v hv; omega) N _ (List.replicate (n + 1) 0) (by simp) (by simp) (rep0 _) hb0 hN
  have htree := hx.tree t ht0
  have hdt : gf g' t = 0 := htree.root.1
  have hpot := pot_feas hP (by omega) (by decide) hx.bnd hx.done hπ hπb
  have hpt : pot FAR (gf g') π t = 0 := by rw [pot_at (by rw [hdt]; decide)]; exact hdt
  have hrel' : ∀ k, N ≤ k → relaxF k arcs ((List.replicate (n + 1) (-1099511627776)).set t 0) (List.replicate (n + 1) 0) = some (g', b') := fun k hk => relaxF_le hk hrel
  have hRp := hR.push f t p 1 0 1 rfl (by omega)
  have hcp := Pairs.push_cap (f := f) (t := t) (g := p) (c := 1) (y := 0) hc (by omega)
  by_cases hfar : gf g' f = FAR
  · refine ⟨N, _, _, fun k hk => ?_, hRp, hcp, ⟨pot FAR (gf g') π, fun i u v x h => ?_⟩, fun χ => by rw [Pairs.push_div]; omega⟩
    · unfold takeF
      rw [Int.toNat_natCast, hrel' k hk]
      simp only [Option.bind_some, gt0_nat]
      rw [if_pos hfar]
    · rcases Pairs.push_res h with h | ⟨rfl, rfl, rfl, rfl, _⟩ | ⟨rfl, rfl, rfl, rfl, h⟩
      · exact hpot i u v x h
      · rw [hpt]; unfold pot; rw [if_pos hfar]; have := hπb u (by omega); omega
      · omega
  · have hlow := hx.bnd.low (by omega) hfar
    have hπf := hπb f (by omega)
    have hpf : pot FAR (gf g') π f = gf g' f := pot_at hfar
    have hw : IntKind.i64.wrap (gf g' f + p) = gf g' f + p := by rw [i64_w]; unfold wrap64; omega
    by_cases hle : gf g' f + p ≤ 0
    · refine ⟨N, _, _, fun k hk => ?_, hRp, hcp, ⟨pot FAR (gf g') π, fun i u v x h => ?_⟩, fun χ => by rw [Pairs.push_div]; omega⟩
      · unfold takeF
        rw [Int.toNat_natCast, hrel' k hk]
        simp only [Option.bind_some, gt0_nat, hw]
        rw [if_neg hfar, if_pos hle]
      · rcases Pairs.push_res h with h | ⟨rfl, rfl, rfl, rfl, _⟩ | ⟨rfl, rfl, rfl, rfl, h⟩
        · exact hpot i u v x h
        · rw [hpt, hpf]; exact hle
        · omega
    · obtain ⟨m, hwalk⟩ := pot_walk hP (by omega) (by decide) hft1 hx.bnd hx.done hπ hπb htree hc (by omega : f < n + 1) hfar
      obtain ⟨arcs1, hway, hR1⟩ := wayF_rep hP hx.lb hft1 hx.nb (fun j hj => by have := hcb j hj; omega) hwalk hR
      obtain ⟨c1, f1, v1, _⟩ := hwalk.all hP
      have hRp1 := hR1.push f t p 1 0 1 rfl (by omega)
      have hcp1 := Pairs.push_cap (f := f) (t := t) (g := p) (c := 1) (y := 0) c1 (by omega)
      have hres : (P.push f t p 1).Res (upd (pushes P (bf b') m φ f) P.n 0) (2 * P.n) f t p := by
        refine ⟨by simp only [Pairs.push]; omega, Or.inl ⟨by omega, ?_⟩⟩
        simp only [Pairs.push, show 2 * P.n / 2 = P.n by omega, upd_same, true_and]
        decide
      obtain ⟨arcs2, h2, hR2⟩ := send2_rep hRp1 hres hcp1 (fun j hj => by
        simp only [Pairs.push] at hj ⊢
        by_cases e : j = P.n
        · subst e; simp only [upd_same]; omega
        · simp only [upd_ne e]; have := hcb j (by omega); omega)
      have eφ : send (upd (pushes P (bf b') m φ f) P.n 0) (2 * P.n) = upd (pushes P (bf b') m φ f) P.n 1 := by
        funext j
        simp only [send, show 2 * P.n / 2 = P.n by omega, show 2 * P.n % 2 = 0 by omega, if_true, upd_same]
        by_cases e : j = P.n
        · subst e; simp only [upd_same]; rfl
        · simp only [upd_ne e]
      rw [eφ] at hR2
      refine ⟨max N (m + 1), _, _, fun k hk => ?_, hR2, Pairs.push_cap c1 (by omega), ⟨pot FAR (gf g') π, fun i u v x h => ?_⟩, fun χ => by rw [Pairs.push_div, v1]; omega⟩
      · unfold takeF
        rw [Int.toNat_natCast, hrel' k (by omega)]
        simp only [Option.bind_some, gt0_nat, hw]
        rw [if_neg hfar, if_neg hle]
        unfold addF
        rw [wayF_more (hway k (by omega))]
        simp only [Option.bind_some]
        rw [hR.len]
        exact h2
      · rcases Pairs.push_res h with h | ⟨rfl, rfl, rfl, rfl, h⟩ | ⟨rfl, rfl, rfl, rfl, _⟩
        · exact f1 i u v x h
        · omega
        · rw [hpt, hpf]; omega
def inst (l : List S47) (rooms : List Int) : Inst := {
  L := l.length
  f := fun i => (l.getD i z47).f0.toNat
  t := fun i => (l.getD i z47).f1.toNat
  p := fun i => (l.getD i z47).f2
  n := rooms.length
  R := fun k => rooms.getD k 0 }
theorem inst_ok {l : List S47} {rooms : List Int} (hg : A.Good l rooms) : (inst l rooms).Ok := {
  few := ⟨hg.many, hg.nights.2⟩
  nights := fun i hi => by
    have hi' : i < l.length := hi
    have hx : l.getD i z47 ∈ l := by rw [List.getD_eq_getElem?_getD, List.getElem?_eq_getElem hi']; exact List.getElem_mem hi'
    have := hg.from_ _ hx
    simp only [inst]
    omega
  price := fun i hi => by
    have hi' : i < l.length := hi
    have hx : l.getD i z47 ∈ l := by rw [List.getD_eq_getElem?_getD, List.getElem?_eq_getElem hi']; exact List.getElem_mem hi'
    exact hg.price _ hx
  room := fun k hk => by
    have hk' : k < rooms.length := hk
    have hx : rooms.getD k 0 ∈ rooms := by rw [List.getD_eq_getElem?_getD, List.getElem?_eq_getElem hk']; exact List.getElem_mem hk'
    exact hg.room _ hx }
def instQ (l : List S47) (rooms : List Int) (q : Nat) : Inst := { inst l rooms with L := q }
def capR (rooms : List Int) : Nat → Int := fun k => 1048576 + rooms.getD k 0
theorem upd_self {α : Type} (f : Nat → α) (k : Nat) : upd f k (f k) = f := by
  funext j; unfold upd; split
  · rename_i e; rw [e]
  · rfl
theorem net_push (l : List S47) (rooms : List Int) (q : Nat) : (instQ l rooms (q + 1)).net (capR rooms) = ((instQ l rooms q).net (capR rooms)).push (l.getD q z47).f0.toNat (l.getD q z47).f1.toNat (l.getD q z47).f2 1 := by
  have h1 : ¬ rooms.length + q < rooms.length := by omega
  have h2 : rooms.length + q - rooms.length = q := by omega
  unfold Pairs.push Inst.net instQ inst
  simp only [Pairs.mk.injEq]
  refine ⟨by omega, ?_, ?_, ?_, ?_⟩
  all_goals
    funext j
    unfold upd
    by_cases e : j = rooms.length + q
    · subst e; simp only [if_neg h1, h2, if_true]
    · simp only [if_neg e]
theorem net_lo (I : Inst) (C : Nat → Int) {j : Nat} (h : j < I.n) : (I.net C).F j = j ∧ (I.net C).T j = j + 1 ∧ (I.net C).g j = 0 ∧ (I.net C).c j = C j := by
  simp only [Inst.net, if_pos h, and_self]
theorem net_hi (I : Inst) (C : Nat → Int) {j : Nat} (h : ¬ j < I.n) : (I.net C).F j = I.f (j - I.n) ∧ (I.net C).T j = I.t (j - I.n) ∧ (I.net C).g j = I.p (j - I.n) ∧ (I.net C).c j = 1 := by
  simp only [Inst.net, if_neg h, and_self]
theorem newK_rep (rooms : List Int) : ∀ q, q ≤ rooms.length → Rep ⟨q, fun j => j, fun j => j + 1, fun _ => 0, capR rooms⟩ (fun j => rooms.getD j 0) (newK rooms q) := by
  intro q
  induction q with
  | zero => intro _; exact ⟨rfl, fun j hj => by simp only at hj; omega, fun j hj => by simp only at hj; omega⟩
  | succ q ih =>
    intro hq
    have h := (ih (by omega)).push q (q + 1) 0 (capR rooms q) (rooms.getD q 0) 1048576 (by unfold capR; omega) (by omega)
    have e1 : Pairs.push ⟨q, fun j => j, fun j => j + 1, fun _ => 0, capR rooms⟩ q (q + 1) 0 (capR rooms q) = ⟨q + 1, fun j => j, fun j => j + 1, fun _ => 0, capR rooms⟩ := by
      unfold Pairs.push
      simp only [Pairs.mk.injEq, true_and]
      exact ⟨upd_self (fun j => j) q, upd_self (fun j => j + 1) q, upd_self (fun _ => (0 : Int)) q, upd_self (capR rooms) q⟩
    rw [e1, show upd (fun j => rooms.getD j 0) q (rooms.getD q 0) = (fun j => rooms.getD j 0) from upd_self (fun j => rooms.getD j 0) q] at h
    rw [newK]
    exact h
theorem Rep.congr {P Q : Pairs} {φ : Nat → Int} {arcs : List S106} (h : Rep P φ arcs) (hn : Q.n = P.n) (h1 : ∀ j, j < P.n → Q.F j = P.F j ∧ Q.T j = P.T j ∧ Q.g j = P.g j ∧ Q.c j = P.c j) : Rep Q φ arcs := by
  refine ⟨by rw [hn]; exact h.len, fun j hj => ?_, fun j hj => ?_⟩
  · obtain ⟨a, b, c, d⟩ := h1 j (by omega); rw [a, b, c, d]; exact h.fwd j (by omega)
  · obtain ⟨a, b, c, d⟩ := h1 j (by omega); rw [a, b, c]; exact h.bwd j (by omega)
theorem takesF_ok {l : List S47} {rooms : List Int} (hg : A.Good l rooms) : ∀ q, q ≤ l.length →
    ∃ K φ arcs, (∀ k, K ≤ k → takesF k rooms.length (newK rooms rooms.length) (l.take q) = some arcs) ∧ Rep ((instQ l rooms q).net (capR rooms)) φ arcs ∧ ((instQ l rooms q).net (capR rooms)).Cap φ ∧ (∃ d, ((instQ l rooms q).net (capR rooms)).Feas φ d) ∧
      ∀ χ, ((instQ l rooms q).net (capR rooms)).div φ χ = sumTo rooms.length (fun k => rooms.getD k 0 * (χ k - χ (k + 1))) := by
  have hok : ∀ q, q ≤ l.length → (instQ l rooms q).Ok := fun q hq => by
    have h := inst_ok hg
    have hL : l.length ≤ 40 := hg.many
    exact ⟨⟨by show q ≤ 40; omega, h.few.2⟩, fun i hi => h.nights i (by have : i < q := hi; show i < l.length; omega), fun i hi => h.price i (by have : i < q := hi; show i < l.length; omega), h.room⟩
  have hroom : ∀ k, k < rooms.length → 0 ≤ rooms.getD k 0 ∧ rooms.getD k 0 ≤ 8 := fun k hk => (inst_ok hg).room k hk
  intro q
  induction q with
  | zero =>
    intro _
    refine ⟨0, fun j => rooms.getD j 0, newK rooms rooms.length, fun k _ => by simp [takesF], ?_, ?_, ⟨fun _ => 0, ?_⟩, fun χ => ?_⟩
    · refine (newK_rep rooms rooms.length (Nat.le_refl _)).congr rfl (fun j hj => ?_)
      exact net_lo (instQ l rooms 0) (capR rooms) hj
    · intro j hj
      have hj' : j < rooms.length := hj
      have := hroom j hj'
      rw [(net_lo (instQ l rooms 0) (capR rooms) hj').2.2.2]
      simp only [capR]
      omega
    · rintro i u v x ⟨hi, h | h⟩
      · have hj' : i / 2 < rooms.length := hi
        obtain ⟨_, _, _, rfl, _⟩ := h
        rw [(net_lo (instQ l rooms 0) (capR rooms) hj').2.2.1]
        show (0 : Int) + 0 ≤ 0; decide
      · have hj' : i / 2 < rooms.length := hi
        obtain ⟨_, _, _, rfl, _⟩ := h
        rw [(net_lo (instQ l rooms 0) (capR rooms) hj').2.2.1]
        show (0 : Int) + -0 ≤ 0; decide
    · rw [Inst.net_div]
      show sumTo rooms.length _ + sumTo 0 _ = _
      simp only [sumTo, Int.add_zero]
  | succ q ih =>
    intro hq
    obtain ⟨K, φ, arcs, h1, h2, h3, h4, h5⟩ := ih (by omega)
    have hx : l[q]? = some (l.getD q z47) := by rw [List.getD_eq_getElem?_getD, List.getElem?_eq_getElem (by omega : q < l.length)]; rfl
    have hn := (inst_ok hg).nights q (by show q < l.length; omega)
    have hp := (inst_ok hg).price q (by show q < l.length; omega)
    simp only [inst] at hn hp
    have hgx := hg.from_ (l.getD q z47) (List.mem_of_getElem? hx)
    obtain ⟨K', φ', arcs', g1, g2, g3, g4, g5⟩ := takeF_ok (n := rooms.length) (by have := hg.nights; omega) h2 (Inst.net_ok (hok q (by omega)) _) h3 (fun j _ => by
      by_cases h : j < (instQ l rooms q).n
      · rw [(net_lo (instQ l rooms q) (capR rooms) h).2.2.2]
        have := hroom j h
        unfold capR
        omega
      · rw [(net_hi (instQ l rooms q) (capR rooms) h).2.2.2]
        omega) h4 (f := (l.getD q z47).f0.toNat) (t := (l.getD q z47).f1.toNat) (p := (l.getD q z47).f2) (by omega) hp
    rw [← net_push] at g2 g3 g4 g5
    refine ⟨max K K', φ', arcs', fun k hk => ?_, g2, g3, g4, fun χ => by rw [g5, h5]⟩
    have e : l.take (q + 1) = l.take q ++ [l.getD q z47] := by
      rw [List.take_add_one, hx]; rfl
    rw [e, takesF_snoc, h1 k (by omega)]
    simp only [Option.bind_some]
    have := g1 k (by omega)
    rw [Int.toNat_of_nonneg (by omega), Int.toNat_of_nonneg (by omega)] at this
    exact this
end Go.Proofs.Ytpjobcnfjpbaeaa.M

namespace Go.Proofs.Ytpjobcnfjpbaeaa.M
open Go.RowKit Go.Proofs.YtpjobcnfjpbaeaaW.PrintWords Go.Proofs.YtpjobcnfjpbaeaaW.PrintLast Go.Proofs.YtpjobcnfjpbaeaaW.PrintMore
open Go.Proofs.Ytpjobcnfjpbaeaa.PA Go.Proofs.Ytpjobcnfjpbaeaa.A
def ind (tk : List Int) : Nat → Int := fun i => if (i : Int) ∈ tk then 1 else 0
structure Asc (L : Nat) (tk : List Int) : Prop where
  asc : tk.Pairwise (· < ·)
  rng : ∀ x, x ∈ tk → 0 ≤ x ∧ x < L
def lsum (h : Nat → Int) : List Int → Int
  | [] => 0
  | x :: xs => h x.toNat + lsum h xs
theorem Asc.tail {L : Nat} {x : Int} {tk : List Int} (h : Asc L (x :: tk)) : Asc L tk := ⟨(List.pairwise_cons.1 h.asc).2, fun y hy => h.rng y (List.mem_cons_of_mem _ hy)⟩
theorem lsum_ind {L : Nat} (h : Nat → Int) : ∀ {tk : List Int}, Asc L tk → lsum h tk = sumTo L (fun i => ind tk i * h i)
  | [], _ => by
    rw [sumTo_zero (fun i _ => by simp [ind])]; rfl
  | x :: tk, ha => by
    obtain ⟨h0, h1⟩ := ha.rng x List.mem_cons_self
    obtain ⟨k, rfl⟩ := Int.eq_ofNat_of_zero_le h0
    have hn : (k : Int) ∉ tk := fun hm => by have := (List.pairwise_cons.1 ha.asc).1 _ hm; omega
    simp only [lsum, Int.toNat_natCast]
    rw [lsum_ind h ha.tail, sumTo_one (n := L) (j := k) (by omega) (f := fun i => ind tk i * h i) (g := fun i => ind ((k : Int) :: tk) i * h i) (fun i _ hne => by
      have : ((i : Int) ∈ (k : Int) :: tk) ↔ (i : Int) ∈ tk := by simp; omega
      simp only [ind, this])]
    have e1 : ind ((k : Int) :: tk) k = 1 := by simp [ind]
    have e2 : ind tk k = 0 := by simp [ind, hn]
    simp only [e1, e2]
    omega
theorem ind_01 (tk : List Int) (i : Nat) : ind tk i = 0 ∨ ind tk i = 1 := by unfold ind; split <;> simp
theorem Inst.Fit.congr {I : Inst} {X Y : Nat → Int} (h : I.Fit X) (e : ∀ i, i < I.L → Y i = X i) : I.Fit Y := by
  refine ⟨fun i hi => by rw [e i hi]; exact h.one i hi, fun k hk => ?_⟩
  rw [sumTo_congr (g := fun i => X i * I.cov i k) (fun i hi => by rw [e i hi])]
  exact h.fit k hk
theorem Inst.Rev_congr {I : Inst} {X Y : Nat → Int} (e : ∀ i, i < I.L → Y i = X i) : I.Rev Y = I.Rev X := sumTo_congr (fun i hi => by rw [e i hi])
theorem takenK_spec {n : Nat} {arcs : List S106} {l : List S47} : ∀ q, (takenK n arcs l q).Pairwise (· < ·) ∧ ∀ x, x ∈ takenK n arcs l q ↔ ∃ k : Nat, x = k ∧ k < q ∧ moved (arcs.getD (2 * (n + k)) z106) (l.getD k z47) = true := by
  intro q
  induction q with
  | zero => exact ⟨List.Pairwise.nil, fun x => by simp [takenK]⟩
  | succ q ih =>
    obtain ⟨h1, h2⟩ := ih
    simp only [takenK]
    by_cases h : moved (arcs.getD (2 * (n + q)) z106) (l.getD q z47) = true
    · rw [if_pos h]
      refine ⟨List.pairwise_append.2 ⟨h1, List.pairwise_singleton _ _, fun a ha b hb => ?_⟩, fun x => ?_⟩
      · obtain ⟨k, rfl, hk, _⟩ := (h2 a).1 ha
        simp only [List.mem_singleton] at hb
        omega
      · simp only [List.mem_append, List.mem_singleton, h2]
        constructor
        · rintro (⟨k, rfl, hk, hm⟩ | rfl)
          · exact ⟨k, rfl, by omega, hm⟩
          · exact ⟨q, rfl, by omega, h⟩
        · rintro ⟨k, rfl, hk, hm⟩
          by_cases e : k = q
          · right; omega
          · left; exact ⟨k, rfl, by omega, hm⟩
    · rw [if_neg h]
      refine ⟨h1, fun x => ?_⟩
      rw [h2]
      constructor
      · rintro ⟨k, rfl, hk, hm⟩; exact ⟨k, rfl, by omega, hm⟩
      · rintro ⟨k, rfl, hk, hm⟩
        by_cases e : k = q
        · subst e; exact absurd hm h
        · exact ⟨k, rfl, by omega, hm⟩
theorem pricesK_get (g : List Int) : ∀ {q j : Nat}, j < q → (pricesK g q)[j]? = some (wrap64 (g.getD (j + 1) 0 - g.getD j 0))
  | 0, j, h => by omega
  | q + 1, j, h => by
    simp only [pricesK]
    have hl := pricesK_len g q
    by_cases e : j = q
    · subst e; rw [List.getElem?_append_right (by omega), hl, Nat.sub_self]; rfl
    · rw [List.getElem?_append_left (by omega)]; exact pricesK_get g (by omega)
theorem accept_cert {l : List S47} {rooms : List Int} (hg : A.Good l rooms) : ∃ K tk pr, (∀ k, K ≤ k → acceptF k l rooms = some (tk, pr)) ∧ Asc l.length tk ∧ pr.length = rooms.length ∧
    (∀ j, j < rooms.length → 0 ≤ pr.getD j 0 ∧ pr.getD j 0 ≤ 1000000000) ∧ (inst l rooms).Fit (ind tk) ∧ (inst l rooms).Rev (ind tk) = (inst l rooms).Bd (fun k => pr.getD k 0) := by
  obtain ⟨K, φ, arcs, h1, hR, hc, ⟨d, hd⟩, h5⟩ := takesF_ok hg l.length (Nat.le_refl _)
  have hI := inst_ok hg
  have hnet : ((instQ l rooms l.length).net (capR rooms)) = (inst l rooms).net (capR rooms) := rfl
  rw [hnet] at hR hc hd h5
  rw [List.take_length] at h1
  have hnn : (inst l rooms).n = rooms.length := rfl
  have hLL : (inst l rooms).L = l.length := rfl
  have hn60 := hg.nights
  have hP := Inst.net_ok hI (capR rooms)
  have hfull : (inst l rooms).Full φ := fun χ => by rw [← Inst.net_div (inst l rooms) (capR rooms)]; exact h5 χ
  obtain ⟨π, hπ, hπb⟩ := small_pot hP hd
  have e0 : ∀ v, v < rooms.length + 1 → gf (List.replicate (rooms.length + 1) 0) v = 0 := fun v hv => by simp [gf, List.getElem?_replicate, hv]
  have hb0 : Bnd (rooms.length + 1) FAR π (gf (List.replicate (rooms.length + 1) 0)) := fun v hv => by
    have := (cnt_bd (rooms.length + 1) FAR (gf (List.replicate (rooms.length + 1) 0))).1
    have := hπb v hv
    rw [e0 v hv]
    right; omega
  obtain ⟨N, hN⟩ : ∃ N : Nat, slack (rooms.length + 1) π (gf (List.replicate (rooms.length + 1) 0)) < N := ⟨(slack (rooms.length + 1) π (gf (List.replicate (rooms.length + 1) 0)) + 1).toNat, by omega⟩
  obtain ⟨g', b', hrel, hx⟩ := relaxF_ends hR hP (by omega) hπ (fun v hv => by have := hπb v hv; omega) N (List.replicate (rooms.length + 1) 0) (List.replicate (rooms.length + 1) 0) (by simp; rfl) (by simp; rfl) (rep0 _) hb0 hN
  have hfeas : ((inst l rooms).net (capR rooms)).Feas φ (gf g') := fun i u v x h => by
    refine hx.done i u v x h ?_
    have hu := ((hP.net φ).lt h).1
    have := hx.up u
    rw [e0 u hu] at this
    have hF : FAR = -1099511627776 := rfl
    omega
  have hgb : ∀ v, v < rooms.length + 1 → 0 ≤ gf g' v ∧ gf g' v ≤ 61000000 := fun v hv => by
    have h2 := hx.up v
    rw [e0 v hv] at h2
    have h3 := hx.bnd.low hv (by have hF : FAR = -1099511627776 := rfl; omega)
    have h4 := hπb v hv
    rw [hnn] at h4
    omega
  have hcov : ∀ k, k < rooms.length → 0 ≤ sumTo (inst l rooms).L (fun i => φ ((inst l rooms).n + i) * (inst l rooms).cov i k) := fun k hk => sumTo_nonneg (fun i hi => by
    refine Int.mul_nonneg (hc _ (by show rooms.length + i < rooms.length + l.length; rw [hLL] at hi; omega)).1 ?_
    unfold Inst.cov; split <;> omega)
  have hup : ∀ k, k < (inst l rooms).n → gf g' k ≤ gf g' (k + 1) := fun k hk => by
    have h2 := hfull.night hI hk
    have h3 := hcov k hk
    have h4 := net_lo (inst l rooms) (capR rooms) hk
    have := hfeas (2 * k) k (k + 1) 0 ⟨by show 2 * k / 2 < rooms.length + l.length; rw [hnn] at hk; omega, Or.inl ⟨by omega, by rw [show 2 * k / 2 = k by omega, h4.1], by rw [show 2 * k / 2 = k by omega, h4.2.1], by rw [show 2 * k / 2 = k by omega, h4.2.2.1], by rw [show 2 * k / 2 = k by omega, h4.2.2.2]; have e : capR rooms k = 1048576 + (inst l rooms).R k := rfl; omega⟩⟩
    omega
  have hpr : ∀ j, j < rooms.length → (pricesK g' rooms.length).getD j 0 = gf g' (j + 1) - gf g' j := fun j hj => by
    rw [List.getD_eq_getElem?_getD, pricesK_get g' hj]
    have h2 := hgb j (by omega)
    have h3 := hgb (j + 1) (by omega)
    show wrap64 (gf g' (j + 1) - gf g' j) = _
    unfold wrap64
    omega
  obtain ⟨hfit, hq0, hrev⟩ := Inst.cert hI hfull hc hfeas (q := fun k => (pricesK g' rooms.length).getD k 0) (fun k hk => by have := hup k hk; show (pricesK g' rooms.length).getD k 0 = _; rw [hpr k hk]; omega) (fun k hk _ => hup k hk)
  have hspec := takenK_spec (n := rooms.length) (arcs := arcs) (l := l) l.length
  have hind : ∀ i, i < (inst l rooms).L → ind (takenK rooms.length arcs l l.length) i = φ ((inst l rooms).n + i) := fun i hi => by
    have h01 := hfit.one i hi
    have ha := hR.fwd (rooms.length + i) (by show rooms.length + i < rooms.length + l.length; rw [hLL] at hi; omega)
    obtain ⟨n1, n2, n3, n4⟩ := net_hi (inst l rooms) (capR rooms) (j := rooms.length + i) (by rw [hnn]; omega)
    rw [n1, n2, n3, n4, hnn, show rooms.length + i - rooms.length = i by omega] at ha
    have hgx := hg.from_ (l.getD i z47) (by rw [List.getD_eq_getElem?_getD, List.getElem?_eq_getElem (by exact hi)]; exact List.getElem_mem (by exact hi))
    have hm : moved (arcs.getD (2 * (rooms.length + i)) z106) (l.getD i z47) = true ↔ φ (rooms.length + i) = 1 := by
      rw [List.getD_eq_getElem?_getD, ha]
      have e1 : (((inst l rooms).f i : Nat) : Int) = (l.getD i z47).f0 := by show (((l.getD i z47).f0.toNat : Nat) : Int) = _; omega
      have e2 : (((inst l rooms).t i : Nat) : Int) = (l.getD i z47).f1 := by show (((l.getD i z47).f1.toNat : Nat) : Int) = _; omega
      have e3 : (inst l rooms).p i = (l.getD i z47).f2 := rfl
      simp only [Option.getD_some, moved, e1, e2, e3, beq_self_eq_true, Bool.not_true, Bool.false_or, Bool.or_false, Bool.not_eq_true', beq_eq_false_iff_ne, ne_eq]
      rw [hnn] at h01
      omega
    unfold ind
    rw [hnn]
    by_cases h : φ (rooms.length + i) = 1
    · rw [if_pos ((hspec.2 _).2 ⟨i, rfl, hi, hm.2 h⟩), h]
    · rw [if_neg (fun hmem => by obtain ⟨k, e, _, hk⟩ := (hspec.2 _).1 hmem; obtain rfl : i = k := by omega
                                 exact h (hm.1 hk))]
      rw [hnn] at h01
      omega
  refine ⟨max K N, takenK rooms.length arcs l l.length, pricesK g' rooms.length, fun k hk => ?_, ⟨hspec.1, fun x hx' => ?_⟩, pricesK_len _ _, fun j hj => ?_, hfit.congr hind, ?_⟩
  · unfold acceptF
    rw [h1 k (by omega)]
    simp only [Option.bind_some]
    rw [relaxF_le (by omega) hrel]
    rfl
  · obtain ⟨k, rfl, hk, _⟩ := (hspec.2 x).1 hx'
    omega
  · rw [hpr j hj]
    have h2 := hgb j (by omega)
    have h3 := hgb (j + 1) (by omega)
    have h4 := hup j hj
    omega
  · rw [Inst.Rev_congr hind]; exact hrev
end Go.Proofs.Ytpjobcnfjpbaeaa.M
