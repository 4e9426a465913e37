/- For all bookings and all rooms assigned to them the statement RoomsTurns holds: Go's function returns true and changes nothing that existed. -/
import Derived.Lib.Hide
import Derived.ChangeKeysEq
import Derived.WalkSpells
import Derived.WalkLawsBesides
import Derived.OrdersHeld
import Derived.Still
import Derived.StillTail
import Derived.Below
import Derived.StillTailTactics
import Derived.Test.YtpjobcnfjpbaeaaZk1
set_option linter.unusedSimpArgs false
set_option linter.unusedVariables false

namespace Go.Proofs.Ytpjobcnfjpbaeaa.PA
open Go.RowKit Go.Proofs.YtpjobcnfjpbaeaaW.PrintWords Go.Proofs.YtpjobcnfjpbaeaaW.PrintLast Go.Proofs.YtpjobcnfjpbaeaaW.PrintMore
attribute [local go_sem] max2_int min2_int max_two min_two max_three min_three max_four min_four
set_option linter.unusedVariables false
set_option linter.unusedSimpArgs false
mutual
def turndownref08_Turnover.l0 : Nat → List (S47) → List Int → List (S24) → Int → Option ((List (S24)))
  | 0, _, _, _, _ => none
  | k + 1, x0, x1, x5, x6 => if x6 ≤ 60 then (turndownref08_Turnover.l1 k x0 x1 x5 x6 ([] : List Int) 0) else (some x5)
def turndownref08_Turnover.l1 : Nat → List (S47) → List Int → List (S24) → Int → List Int → Int → Option ((List (S24)))
  | 0, _, _, _, _, _, _ => none
  | k + 1, x0, x1, x5, x6, x7, x8 => if x8 < (x0.length : Int) then (turndownref08_Turnover.l2 k x0 x1 x5 x6 x7 x8 0) else (turndownref08_Turnover.l3 k x0 x1 x5 x6 x7 0)
def turndownref08_Turnover.l2 : Nat → List (S47) → List Int → List (S24) → Int → List Int → Int → Int → Option ((List (S24)))
  | 0, _, _, _, _, _, _, _ => none
  | k + 1, x0, x1, x5, x6, x7, x8, x9 => if x9 < (x0.length : Int) then (if 0 ≤ x8 then (if x8 < (x0.length : Int) then (if ((rd_T47 x0 x8).f1) = x6 then (if 0 ≤ x9 then (if ((rd_T47 x0 x9).f0) = x6 then (if x8 < (x1.length : Int) then (if x9 < (x1.length : Int) then (if (rd x1 x8) = (rd x1 x9) then ((turndownref08_insert.f k x7 (rd x1 x8)).bind fun t534 => (turndownref08_Turnover.l2 k x0 x1 x5 x6 t534 x8 (wrap64 (x9 + 1)))) else (turndownref08_Turnover.l2 k x0 x1 x5 x6 x7 x8 (wrap64 (x9 + 1)))) else (none)) else (none)) else (turndownref08_Turnover.l2 k x0 x1 x5 x6 x7 x8 (wrap64 (x9 + 1)))) else (none)) else (turndownref08_Turnover.l2 k x0 x1 x5 x6 x7 x8 (wrap64 (x9 + 1)))) else (none)) else (none)) else (turndownref08_Turnover.l1 k x0 x1 x5 x6 x7 (wrap64 (x8 + 1)))
def turndownref08_Turnover.l3 : Nat → List (S47) → List Int → List (S24) → Int → List Int → Int → Option ((List (S24)))
  | 0, _, _, _, _, _, _ => none
  | k + 1, x0, x1, x5, x6, x7, x10 => if x10 < (x7.length : Int) then (if 0 ≤ x10 then (if x5.length < 8796093022208 then (turndownref08_Turnover.l3 k x0 x1 (x5 ++ [(⟨x6, rd x7 x10⟩ : S24)]) x6 x7 (wrap64 (x10 + 1))) else (none)) else (none)) else (turndownref08_Turnover.l0 k x0 x1 x5 (wrap64 (x6 + 1)))
end
def turndownref08_Turnover.f (k : Nat) (l0 : List (S47)) (l1 : List Int) : Option ((List (S24))) := turndownref08_Turnover.l0 k l0 l1 ([] : List (S24)) 0
set_option maxHeartbeats 8000000 in
set_option maxRecDepth 100000 in
theorem turndownref08_Turnover.calls (k : Nat) (A0 : Option Addr) (c0 : Nat) (l0 : List (S47)) (A1 : Option Addr) (c1 : Nat) (l1 : List Int) (r : List (S24)) (w : World) (hr0 : Kd.C k47 w A0 l0.length l0) (hc0 : l0.length ≤ c0) (hr1 : Kd.C (Kd.int .i64) w A1 l1.length l1) (hc1 : l1.length ≤ c1) (h : turndownref08_Turnover.f k l0 l1 = some r) :
    Calls Try.prog 40 #[.slice A0 l0.length c0, .slice A1 l1.length c1] w fun e w' => ∃ v0_ : Value, e = .returned (v0_) ∧ Kd.R k24 24 w' w.heap.size (fun _ => True) v0_ r ∧ Below w.heap.size w w' := by
  have hu24 := Try.underlying24
  have HR0 := Aside0.mk hr0
  have HC0 := Aside0.mk hc0
  clear hr0 hc0
  have HR1 := Aside0.mk hr1
  have HC1 := Aside0.mk hc1
  clear hr1 hc1
  have HB := Aside0.mk (Below.refl w.heap.size w)
  have H : (turndownref08_Turnover.l0 k l0 l1 ([] : List (S24)) 0) = some r := h
  clear h
  have H' := Aside0.mk H
  clear H
  go_enter Try.func40, Try.ntmps40
  go_wp2
  repeat (go_quiet (fail); try go_wp2)
  go_loopg [5, 6] k (fun kq v5 v6 w' => ∃ (x5_1 : List (S24)) (x6_1 : Int), v6 = .int .i64 x6_1 ∧ Aside0 (turndownref08_Turnover.l0 kq l0 l1 x5_1 x6_1 = some r) ∧ Aside0 (kq ≤ k) ∧ Aside0 (Kd.R k24 24 w' w.heap.size (fun _ => True) v5 x5_1) ∧ Aside0 (Below w.heap.size w w'))
  case atStart => exact ⟨(([] : List (S24))), (0), (by first | rfl | (simp; done) | (simp [*]; done)), H', ⟨Nat.le_refl _⟩, ⟨by first | exact Kd.R_nil _ _ _ _ _ | exact Kd.N_nil _ _ _ _ _ | exact Kd.V_nil _ _ _ _ _ | exact Kd.Q_nil _ _ _ _ _ | exact Kd.S_nil _ _ _ _ _⟩, ⟨by repeat (first | (with_reducible first | exact HB.out | apply below_alloc | apply pw_below_drewN | apply below_drew1) | exact HB.out)⟩⟩
  case round =>
    clear H'
    try clear c1
    try clear p2
    obtain ⟨x5_1, x6_1, rfl, HA, HK1, HO_5, HB⟩ := hrel
    cases gk with
    | zero => exact absurd HA.out (by simp [turndownref08_Turnover.l0])
    | succ k1 =>
      have H := HA.out
      clear HA
      simp only [turndownref08_Turnover.l0] at H
      by_cases c3 : x6_1 ≤ 60
      · rw [if_pos c3] at H
        have c3b0 : decide (x6_1 ≤ 60) = true := decide_eq_true c3
        clear c3
        have H' := Aside0.mk H
        clear H
        go_wp2
        repeat (go_quiet (fail); try go_wp2)
        go_loopg [7, 8] k1 (fun kq v7 v8 w' => ∃ (x7_2 : List Int) (x8_2 : Int), v8 = .int .i64 x8_2 ∧ Aside0 (turndownref08_Turnover.l1 kq l0 l1 x5_1 x6_1 x7_2 x8_2 = some r) ∧ Aside0 (kq ≤ k1) ∧ Aside0 (Kd.R k24 24 w' w.heap.size (fun _ => True) u5 x5_1) ∧ Aside0 (Kd.R (Kd.int .i64) 3 w' w.heap.size (fun _ => True) v7 x7_2) ∧ Aside0 (Below w.heap.size w w'))
        case atStart => exact ⟨(([] : List Int)), (0), (by first | rfl | (simp; done) | (simp [*]; done)), H', ⟨Nat.le_refl _⟩, ⟨by (with_reducible repeat (first | apply Kd.R_alloc | apply Kd.R_drewN | apply Kd.R_drew)); exact HO_5.out⟩, ⟨by first | exact Kd.R_nil _ _ _ _ _ | exact Kd.N_nil _ _ _ _ _ | exact Kd.V_nil _ _ _ _ _ | exact Kd.Q_nil _ _ _ _ _ | exact Kd.S_nil _ _ _ _ _⟩, ⟨by repeat (first | (with_reducible first | exact HB.out | apply below_alloc | apply pw_below_drewN | apply below_drew1) | exact HB.out)⟩⟩
        case round =>
          clear H'
          try clear c1
          try clear p2
          try clear c3
          try clear c3b0
          try clear p2
          obtain ⟨x7_2, x8_2, rfl, HA, HK2, HO_5, HO_7, HB⟩ := hrel
          cases gk with
          | zero => exact absurd HA.out (by simp [turndownref08_Turnover.l1])
          | succ k2 =>
            have H := HA.out
            clear HA
            simp only [turndownref08_Turnover.l1] at H
            by_cases c4 : x8_2 < (l0.length : Int)
            · rw [if_pos c4] at H
              have c4b0 : decide (x8_2 < (l0.length : Int)) = true := decide_eq_true c4
              clear c4
              have H' := Aside0.mk H
              clear H
              go_wp2
              repeat (go_quiet (fail); try go_wp2)
              go_loopg [7, 9] k2 (fun kq v7 v9 w' => ∃ (x7_3 : List Int) (x9_3 : Int), v9 = .int .i64 x9_3 ∧ Aside0 (turndownref08_Turnover.l2 kq l0 l1 x5_1 x6_1 x7_3 x8_2 x9_3 = some r) ∧ Aside0 (kq ≤ k2) ∧ Aside0 (Kd.R k24 24 w' w.heap.size (fun _ => True) u5 x5_1) ∧ Aside0 (Kd.R (Kd.int .i64) 3 w' w.heap.size (fun _ => True) v7 x7_3) ∧ Aside0 (Below w.heap.size w w'))
              case atStart => exact ⟨(x7_2), (0), (by first | rfl | (simp; done) | (simp [*]; done)), H', ⟨Nat.le_refl _⟩, ⟨by (with_reducible repeat (first | apply Kd.R_alloc | apply Kd.R_drewN | apply Kd.R_drew)); exact HO_5.out⟩, ⟨by (with_reducible repeat (first | apply Kd.R_alloc | apply Kd.R_drewN | apply Kd.R_drew)); exact HO_7.out⟩, ⟨by repeat (first | (with_reducible first | exact HB.out | apply below_alloc | apply pw_below_drewN | apply below_drew1) | exact HB.out)⟩⟩
              case round =>
                clear H'
                try clear c1
                try clear p2
                try clear c3
                try clear c3b0
                try clear c4
                try clear c4b0
                try clear p2
                obtain ⟨x7_3, x9_3, rfl, HA, HK3, HO_5, HO_7, HB⟩ := hrel
                cases gk with
                | zero => exact absurd HA.out (by simp [turndownref08_Turnover.l2])
                | succ k3 =>
                  have H := HA.out
                  clear HA
                  simp only [turndownref08_Turnover.l2] at H
                  by_cases c5 : x9_3 < (l0.length : Int)
                  · rw [if_pos c5] at H
                    have c5b0 : decide (x9_3 < (l0.length : Int)) = true := decide_eq_true c5
                    clear c5
                    by_cases c6 : 0 ≤ x8_2
                    · rw [if_pos c6] at H
                      have c6b0 : decide (0 ≤ x8_2) = true := decide_eq_true c6
                      clear c6
                      by_cases c7 : x8_2 < (l0.length : Int)
                      · rw [if_pos c7] at H
                        have c7b0 : decide (x8_2 < (l0.length : Int)) = true := decide_eq_true c7
                        clear c7
                        by_cases c8 : ((rd_T47 l0 x8_2).f1) = x6_1
                        · rw [if_pos c8] at H
                          have c8b0 : (((rd_T47 l0 x8_2).f1) == x6_1) = true := beq_iff_eq.mpr c8
                          have c8b1 : (((rd_T47 l0 x8_2).f1) != x6_1) = false := bne_eq_false_iff_eq.mpr c8
                          clear c8
                          by_cases c9 : 0 ≤ x9_3
                          · rw [if_pos c9] at H
                            have c9b0 : decide (0 ≤ x9_3) = true := decide_eq_true c9
                            clear c9
                            by_cases c10 : ((rd_T47 l0 x9_3).f0) = x6_1
                            · rw [if_pos c10] at H
                              have c10b0 : (((rd_T47 l0 x9_3).f0) == x6_1) = true := beq_iff_eq.mpr c10
                              have c10b1 : (((rd_T47 l0 x9_3).f0) != x6_1) = false := bne_eq_false_iff_eq.mpr c10
                              clear c10
                              by_cases c11 : x8_2 < (l1.length : Int)
                              · rw [if_pos c11] at H
                                have c11b0 : decide (x8_2 < (l1.length : Int)) = true := decide_eq_true c11
                                clear c11
                                by_cases c12 : x9_3 < (l1.length : Int)
                                · rw [if_pos c12] at H
                                  have c12b0 : decide (x9_3 < (l1.length : Int)) = true := decide_eq_true c12
                                  clear c12
                                  by_cases c13 : (rd l1 x8_2) = (rd l1 x9_3)
                                  · rw [if_pos c13] at H
                                    have c13b0 : ((rd l1 x8_2) == (rd l1 x9_3)) = true := beq_iff_eq.mpr c13
                                    have c13b1 : ((rd l1 x8_2) != (rd l1 x9_3)) = false := bne_eq_false_iff_eq.mpr c13
                                    clear c13
                                    replace H := Option.bind_eq_some_iff.mp H
                                    obtain ⟨t534, A140, H⟩ := H
                                    replace H : (turndownref08_Turnover.l2 k3 l0 l1 x5_1 x6_1 t534 x8_2 (wrap64 (x9_3 + 1))) = some r := H
                                    have A14 := Aside0.mk A140
                                    clear A140
                                    have H' := Aside0.mk H
                                    clear H
                                    have p529 : 0 ≤ (x8_2 : Int) := of_decide_eq_true (by first | (with_reducible assumption) | assumption)
                                    have q529 : x8_2 < (l0.length : Int) := of_decide_eq_true (by first | (with_reducible assumption) | assumption)
                                    obtain ⟨ad529, e529, hx529_0, hx529_1, hx529_2⟩ := at_T47 HR0.out x8_2 p529 q529
                                    cases e529
                                    replace hx529_0 := (HB.out.cell (World.block_lt_of_cell? w _ hx529_0)).trans hx529_0
                                    replace hx529_1 := (HB.out.cell (World.block_lt_of_cell? w _ hx529_1)).trans hx529_1
                                    replace hx529_2 := (HB.out.cell (World.block_lt_of_cell? w _ hx529_2)).trans hx529_2
                                    replace p529 := eq_true p529
                                    replace q529 := eq_true q529
                                    have p530 : 0 ≤ (x9_3 : Int) := of_decide_eq_true (by first | (with_reducible assumption) | assumption)
                                    have q530 : x9_3 < (l0.length : Int) := of_decide_eq_true (by first | (with_reducible assumption) | assumption)
                                    obtain ⟨ad530, e530, hx530_0, hx530_1, hx530_2⟩ := at_T47 HR0.out x9_3 p530 q530
                                    obtain rfl : ad529 = ad530 := (by injection e530)
                                    replace hx530_0 := (HB.out.cell (World.block_lt_of_cell? w _ hx530_0)).trans hx530_0
                                    replace hx530_1 := (HB.out.cell (World.block_lt_of_cell? w _ hx530_1)).trans hx530_1
                                    replace hx530_2 := (HB.out.cell (World.block_lt_of_cell? w _ hx530_2)).trans hx530_2
                                    replace p530 := eq_true p530
                                    replace q530 := eq_true q530
                                    have p531 : 0 ≤ (x8_2 : Int) := of_decide_eq_true (by first | (with_reducible assumption) | assumption)
                                    have q531 : x8_2 < (l1.length : Int) := of_decide_eq_true (by first | (with_reducible assumption) | assumption)
                                    obtain ⟨ad531, e531, hx531_0⟩ := Kd.at_int HR1.out x8_2 p531 q531
                                    cases e531
                                    replace hx531_0 := (HB.out.cell (World.block_lt_of_cell? w _ hx531_0)).trans hx531_0
                                    replace p531 := eq_true p531
                                    replace q531 := eq_true q531
                                    have p532 : 0 ≤ (x9_3 : Int) := of_decide_eq_true (by first | (with_reducible assumption) | assumption)
                                    have q532 : x9_3 < (l1.length : Int) := of_decide_eq_true (by first | (with_reducible assumption) | assumption)
                                    obtain ⟨ad532, e532, hx532_0⟩ := Kd.at_int HR1.out x9_3 p532 q532
                                    obtain rfl : ad531 = ad532 := (by injection e532)
                                    replace hx532_0 := (HB.out.cell (World.block_lt_of_cell? w _ hx532_0)).trans hx532_0
                                    replace p532 := eq_true p532
                                    replace q532 := eq_true q532
                                    have p533 : 0 ≤ (x8_2 : Int) := of_decide_eq_true (by first | (with_reducible assumption) | assumption)
                                    have q533 : x8_2 < (l1.length : Int) := of_decide_eq_true (by first | (with_reducible assumption) | assumption)
                                    obtain ⟨ad533, e533, hx533_0⟩ := Kd.at_int HR1.out x8_2 p533 q533
                                    obtain rfl : ad531 = ad533 := (by injection e533)
                                    replace hx533_0 := (HB.out.cell (World.block_lt_of_cell? w _ hx533_0)).trans hx533_0
                                    replace p533 := eq_true p533
                                    replace q533 := eq_true q533
                                    obtain ⟨Ao15, co15, eo15⟩ := Kd.R_slice HO_7.out
                                    subst eo15
                                    go_wp2_with (first | (go_at_call 61; (with_reducible refine (turndownref08_insert.calls k3 (fun k_ => some k_ = (.slice Ao15 x7_3.length co15 : Value).ownBlock) (.slice Ao15 x7_3.length co15) x7_3 (rd l1 x8_2) t534 w _ ?side1 ?side2 A14.out).mono ?_); (case side1 => repeat (first | (with_reducible first | exact HB.out | apply below_alloc | apply pw_below_drewN | apply below_drew1) | exact HB.out)); (case side2 => exact Kd.R_tight rfl HO_7.out); rintro e w16 ⟨v535, rfl, ho0, hb, hkp⟩; have n0_ := Aside0.mk (Kd.R_mono (ok' := fun k_ => True) (Kd.R_keptB ((Kd.R_apart' HO_5.out (Kd.R_typed HO_7.out) (by decide))) hkp (fun k_ hk_ hs_ => (hk_.2) hs_)) (fun k_ hk_ => trivial)); have n1_ := Aside0.mk (Kd.R_mono (ok' := fun k_ => True) ho0 (fun k_ hk_ => trivial)); have n2_ := Aside0.mk (hb); clear HO_5; clear HB; clear HO_7; have HO_5 := n0_; have HO536 := n1_; have HB := n2_; clear n0_ n1_ n2_; (try clear hb); (try clear hkp); (try clear ho0)))
                                    repeat (go_quiet (first | (go_at_call 61; (with_reducible refine (turndownref08_insert.calls k3 (fun k_ => some k_ = (.slice Ao15 x7_3.length co15 : Value).ownBlock) (.slice Ao15 x7_3.length co15) x7_3 (rd l1 x8_2) t534 w _ ?side1 ?side2 A14.out).mono ?_); (case side1 => repeat (first | (with_reducible first | exact HB.out | apply below_alloc | apply pw_below_drewN | apply below_drew1) | exact HB.out)); (case side2 => exact Kd.R_tight rfl HO_7.out); rintro e w16 ⟨v535, rfl, ho0, hb, hkp⟩; have n0_ := Aside0.mk (Kd.R_mono (ok' := fun k_ => True) (Kd.R_keptB ((Kd.R_apart' HO_5.out (Kd.R_typed HO_7.out) (by decide))) hkp (fun k_ hk_ hs_ => (hk_.2) hs_)) (fun k_ hk_ => trivial)); have n1_ := Aside0.mk (Kd.R_mono (ok' := fun k_ => True) ho0 (fun k_ hk_ => trivial)); have n2_ := Aside0.mk (hb); clear HO_5; clear HB; clear HO_7; have HO_5 := n0_; have HO536 := n1_; have HB := n2_; clear n0_ n1_ n2_; (try clear hb); (try clear hkp); (try clear ho0))); try go_wp2_with (first | (go_at_call 61; (with_reducible refine (turndownref08_insert.calls k3 (fun k_ => some k_ = (.slice Ao15 x7_3.length co15 : Value).ownBlock) (.slice Ao15 x7_3.length co15) x7_3 (rd l1 x8_2) t534 w _ ?side1 ?side2 A14.out).mono ?_); (case side1 => repeat (first | (with_reducible first | exact HB.out | apply below_alloc | apply pw_below_drewN | apply below_drew1) | exact HB.out)); (case side2 => exact Kd.R_tight rfl HO_7.out); rintro e w16 ⟨v535, rfl, ho0, hb, hkp⟩; have n0_ := Aside0.mk (Kd.R_mono (ok' := fun k_ => True) (Kd.R_keptB ((Kd.R_apart' HO_5.out (Kd.R_typed HO_7.out) (by decide))) hkp (fun k_ hk_ hs_ => (hk_.2) hs_)) (fun k_ hk_ => trivial)); have n1_ := Aside0.mk (Kd.R_mono (ok' := fun k_ => True) ho0 (fun k_ hk_ => trivial)); have n2_ := Aside0.mk (hb); clear HO_5; clear HB; clear HO_7; have HO_5 := n0_; have HO536 := n1_; have HB := n2_; clear n0_ n1_ n2_; (try clear hb); (try clear hkp); (try clear ho0))))
                                    go_roundg k3
                                    case measure => have := HK1.out; have := HK2.out; have := HK3.out; omega
                                    case rel => exact ⟨(t534), (wrap64 (x9_3 + 1)), (by first | rfl | (simp; done) | (simp [*]; done)), H', ⟨by have := HK1.out; have := HK2.out; have := HK3.out; omega⟩, ⟨by (with_reducible repeat (first | apply Kd.R_alloc | apply Kd.R_drewN | apply Kd.R_drew)); exact HO_5.out⟩, ⟨by (with_reducible repeat (first | apply Kd.R_alloc | apply Kd.R_drewN | apply Kd.R_drew)); exact HO536.out⟩, ⟨by repeat (first | (with_reducible first | exact HB.out | apply below_alloc | apply pw_below_drewN | apply below_drew1) | exact HB.out)⟩⟩
                                  · rw [if_neg c13] at H
                                    have c13b0 : ((rd l1 x8_2) == (rd l1 x9_3)) = false := beq_eq_false_iff_ne.mpr c13
                                    have c13b1 : ((rd l1 x8_2) != (rd l1 x9_3)) = true := bne_iff_ne.mpr c13
                                    have H' := Aside0.mk H
                                    clear H
                                    have p529 : 0 ≤ (x8_2 : Int) := of_decide_eq_true (by first | (with_reducible assumption) | assumption)
                                    have q529 : x8_2 < (l0.length : Int) := of_decide_eq_true (by first | (with_reducible assumption) | assumption)
                                    obtain ⟨ad529, e529, hx529_0, hx529_1, hx529_2⟩ := at_T47 HR0.out x8_2 p529 q529
                                    cases e529
                                    replace hx529_0 := (HB.out.cell (World.block_lt_of_cell? w _ hx529_0)).trans hx529_0
                                    replace hx529_1 := (HB.out.cell (World.block_lt_of_cell? w _ hx529_1)).trans hx529_1
                                    replace hx529_2 := (HB.out.cell (World.block_lt_of_cell? w _ hx529_2)).trans hx529_2
                                    replace p529 := eq_true p529
                                    replace q529 := eq_true q529
                                    have p530 : 0 ≤ (x9_3 : Int) := of_decide_eq_true (by first | (with_reducible assumption) | assumption)
                                    have q530 : x9_3 < (l0.length : Int) := of_decide_eq_true (by first | (with_reducible assumption) | assumption)
                                    obtain ⟨ad530, e530, hx530_0, hx530_1, hx530_2⟩ := at_T47 HR0.out x9_3 p530 q530
                                    obtain rfl : ad529 = ad530 := (by injection e530)
                                    replace hx530_0 := (HB.out.cell (World.block_lt_of_cell? w _ hx530_0)).trans hx530_0
                                    replace hx530_1 := (HB.out.cell (World.block_lt_of_cell? w _ hx530_1)).trans hx530_1
                                    replace hx530_2 := (HB.out.cell (World.block_lt_of_cell? w _ hx530_2)).trans hx530_2
                                    replace p530 := eq_true p530
                                    replace q530 := eq_true q530
                                    have p531 : 0 ≤ (x8_2 : Int) := of_decide_eq_true (by first | (with_reducible assumption) | assumption)
                                    have q531 : x8_2 < (l1.length : Int) := of_decide_eq_true (by first | (with_reducible assumption) | assumption)
                                    obtain ⟨ad531, e531, hx531_0⟩ := Kd.at_int HR1.out x8_2 p531 q531
                                    cases e531
                                    replace hx531_0 := (HB.out.cell (World.block_lt_of_cell? w _ hx531_0)).trans hx531_0
                                    replace p531 := eq_true p531
                                    replace q531 := eq_true q531
                                    have p532 : 0 ≤ (x9_3 : Int) := of_decide_eq_true (by first | (with_reducible assumption) | assumption)
                                    have q532 : x9_3 < (l1.length : Int) := of_decide_eq_true (by first | (with_reducible assumption) | assumption)
                                    obtain ⟨ad532, e532, hx532_0⟩ := Kd.at_int HR1.out x9_3 p532 q532
                                    obtain rfl : ad531 = ad532 := (by injection e532)
                                    replace hx532_0 := (HB.out.cell (World.block_lt_of_cell? w _ hx532_0)).trans hx532_0
                                    replace p532 := eq_true p532
                                    replace q532 := eq_true q532
                                    go_wp2
                                    repeat (go_quiet (fail); try go_wp2)
                                    go_roundg k3
                                    case measure => have := HK1.out; have := HK2.out; have := HK3.out; omega
                                    case rel => exact ⟨(x7_3), (wrap64 (x9_3 + 1)), (by first | rfl | (simp; done) | (simp [*]; done)), H', ⟨by have := HK1.out; have := HK2.out; have := HK3.out; omega⟩, ⟨by (with_reducible repeat (first | apply Kd.R_alloc | apply Kd.R_drewN | apply Kd.R_drew)); exact HO_5.out⟩, ⟨by (with_reducible repeat (first | apply Kd.R_alloc | apply Kd.R_drewN | apply Kd.R_drew)); exact HO_7.out⟩, ⟨by repeat (first | (with_reducible first | exact HB.out | apply below_alloc | apply pw_below_drewN | apply below_drew1) | exact HB.out)⟩⟩
                                · rw [if_neg c12] at H
                                  exact absurd H (by simp)
                              · rw [if_neg c11] at H
                                exact absurd H (by simp)
                            · rw [if_neg c10] at H
                              have c10b0 : (((rd_T47 l0 x9_3).f0) == x6_1) = false := beq_eq_false_iff_ne.mpr c10
                              have c10b1 : (((rd_T47 l0 x9_3).f0) != x6_1) = true := bne_iff_ne.mpr c10
                              have H' := Aside0.mk H
                              clear H
                              have p529 : 0 ≤ (x8_2 : Int) := of_decide_eq_true (by first | (with_reducible assumption) | assumption)
                              have q529 : x8_2 < (l0.length : Int) := of_decide_eq_true (by first | (with_reducible assumption) | assumption)
                              obtain ⟨ad529, e529, hx529_0, hx529_1, hx529_2⟩ := at_T47 HR0.out x8_2 p529 q529
                              cases e529
                              replace hx529_0 := (HB.out.cell (World.block_lt_of_cell? w _ hx529_0)).trans hx529_0
                              replace hx529_1 := (HB.out.cell (World.block_lt_of_cell? w _ hx529_1)).trans hx529_1
                              replace hx529_2 := (HB.out.cell (World.block_lt_of_cell? w _ hx529_2)).trans hx529_2
                              replace p529 := eq_true p529
                              replace q529 := eq_true q529
                              have p530 : 0 ≤ (x9_3 : Int) := of_decide_eq_true (by first | (with_reducible assumption) | assumption)
                              have q530 : x9_3 < (l0.length : Int) := of_decide_eq_true (by first | (with_reducible assumption) | assumption)
                              obtain ⟨ad530, e530, hx530_0, hx530_1, hx530_2⟩ := at_T47 HR0.out x9_3 p530 q530
                              obtain rfl : ad529 = ad530 := (by injection e530)
                              replace hx530_0 := (HB.out.cell (World.block_lt_of_cell? w _ hx530_0)).trans hx530_0
                              replace hx530_1 := (HB.out.cell (World.block_lt_of_cell? w _ hx530_1)).trans hx530_1
                              replace hx530_2 := (HB.out.cell (World.block_lt_of_cell? w _ hx530_2)).trans hx530_2
                              replace p530 := eq_true p530
                              replace q530 := eq_true q530
                              go_wp2
                              repeat (go_quiet (fail); try go_wp2)
                              go_roundg k3
                              case measure => have := HK1.out; have := HK2.out; have := HK3.out; omega
                              case rel => exact ⟨(x7_3), (wrap64 (x9_3 + 1)), (by first | rfl | (simp; done) | (simp [*]; done)), H', ⟨by have := HK1.out; have := HK2.out; have := HK3.out; omega⟩, ⟨by (with_reducible repeat (first | apply Kd.R_alloc | apply Kd.R_drewN | apply Kd.R_drew)); exact HO_5.out⟩, ⟨by (with_reducible repeat (first | apply Kd.R_alloc | apply Kd.R_drewN | apply Kd.R_drew)); exact HO_7.out⟩, ⟨by repeat (first | (with_reducible first | exact HB.out | apply below_alloc | apply pw_below_drewN | apply below_drew1) | exact HB.out)⟩⟩
                          · rw [if_neg c9] at H
                            exact absurd H (by simp)
                        · rw [if_neg c8] at H
                          have c8b0 : (((rd_T47 l0 x8_2).f1) == x6_1) = false := beq_eq_false_iff_ne.mpr c8
                          have c8b1 : (((rd_T47 l0 x8_2).f1) != x6_1) = true := bne_iff_ne.mpr c8
                          have H' := Aside0.mk H
                          clear H
                          have p529 : 0 ≤ (x8_2 : Int) := of_decide_eq_true (by first | (with_reducible assumption) | assumption)
                          have q529 : x8_2 < (l0.length : Int) := of_decide_eq_true (by first | (with_reducible assumption) | assumption)
                          obtain ⟨ad529, e529, hx529_0, hx529_1, hx529_2⟩ := at_T47 HR0.out x8_2 p529 q529
                          cases e529
                          replace hx529_0 := (HB.out.cell (World.block_lt_of_cell? w _ hx529_0)).trans hx529_0
                          replace hx529_1 := (HB.out.cell (World.block_lt_of_cell? w _ hx529_1)).trans hx529_1
                          replace hx529_2 := (HB.out.cell (World.block_lt_of_cell? w _ hx529_2)).trans hx529_2
                          replace p529 := eq_true p529
                          replace q529 := eq_true q529
                          go_wp2
                          repeat (go_quiet (fail); try go_wp2)
                          go_roundg k3
                          case measure => have := HK1.out; have := HK2.out; have := HK3.out; omega
                          case rel => exact ⟨(x7_3), (wrap64 (x9_3 + 1)), (by first | rfl | (simp; done) | (simp [*]; done)), H', ⟨by have := HK1.out; have := HK2.out; have := HK3.out; omega⟩, ⟨by (with_reducible repeat (first | apply Kd.R_alloc | apply Kd.R_drewN | apply Kd.R_drew)); exact HO_5.out⟩, ⟨by (with_reducible repeat (first | apply Kd.R_alloc | apply Kd.R_drewN | apply Kd.R_drew)); exact HO_7.out⟩, ⟨by repeat (first | (with_reducible first | exact HB.out | apply below_alloc | apply pw_below_drewN | apply below_drew1) | exact HB.out)⟩⟩
                      · rw [if_neg c7] at H
                        exact absurd H (by simp)
                    · rw [if_neg c6] at H
                      exact absurd H (by simp)
                  · rw [if_neg c5] at H
                    have c5b0 : decide (x9_3 < (l0.length : Int)) = false := decide_eq_false c5
                    clear c5
                    have H' := Aside0.mk H
                    clear H
                    go_wp2
                    repeat (go_quiet (fail); try go_wp2)
                    go_roundg k3
                    case measure => have := HK1.out; have := HK2.out; have := HK3.out; omega
                    case rel => exact ⟨(x7_3), (wrap64 (x8_2 + 1)), (by first | rfl | (simp; done) | (simp [*]; done)), H', ⟨by have := HK1.out; have := HK2.out; have := HK3.out; omega⟩, ⟨by (with_reducible repeat (first | apply Kd.R_alloc | apply Kd.R_drewN | apply Kd.R_drew)); exact HO_5.out⟩, ⟨by (with_reducible repeat (first | apply Kd.R_alloc | apply Kd.R_drewN | apply Kd.R_drew)); exact HO_7.out⟩, ⟨by repeat (first | (with_reducible first | exact HB.out | apply below_alloc | apply pw_below_drewN | apply below_drew1) | exact HB.out)⟩⟩
            · rw [if_neg c4] at H
              have c4b0 : decide (x8_2 < (l0.length : Int)) = false := decide_eq_false c4
              clear c4
              have H' := Aside0.mk H
              clear H
              go_wp2
              repeat (go_quiet (fail); try go_wp2)
              go_loopg [5, 10] k2 (fun kq v5 v10 w' => ∃ (x5_3 : List (S24)) (x10_3 : Int), v10 = .int .i64 x10_3 ∧ Aside0 (turndownref08_Turnover.l3 kq l0 l1 x5_3 x6_1 x7_2 x10_3 = some r) ∧ Aside0 (kq ≤ k2) ∧ Aside0 (Kd.R k24 24 w' w.heap.size (fun _ => True) v5 x5_3) ∧ Aside0 (Kd.R (Kd.int .i64) 3 w' w.heap.size (fun _ => True) u7 x7_2) ∧ Aside0 (Below w.heap.size w w'))
              case atStart => exact ⟨(x5_1), (0), (by first | rfl | (simp; done) | (simp [*]; done)), H', ⟨Nat.le_refl _⟩, ⟨by (with_reducible repeat (first | apply Kd.R_alloc | apply Kd.R_drewN | apply Kd.R_drew)); exact HO_5.out⟩, ⟨by (with_reducible repeat (first | apply Kd.R_alloc | apply Kd.R_drewN | apply Kd.R_drew)); exact HO_7.out⟩, ⟨by repeat (first | (with_reducible first | exact HB.out | apply below_alloc | apply pw_below_drewN | apply below_drew1) | exact HB.out)⟩⟩
              case round =>
                clear H'
                try clear c1
                try clear p2
                try clear c3
                try clear c3b0
                try clear c4
                try clear c4b0
                try clear c5
                try clear c5b0
                try clear p5
                try clear q5
                try clear hx5
                try clear c6
                try clear c6b0
                try clear p6
                try clear c7
                try clear c7b0
                try clear c8
                try clear c8b0
                try clear c8b1
                try clear c9
                try clear c9b0
                try clear c10
                try clear c10b0
                try clear c10b1
                try clear c11
                try clear c11b0
                try clear c12
                try clear c12b0
                try clear c13
                try clear c13b0
                try clear c13b1
                try clear hx529_0
                try clear hx529_1
                try clear hx529_2
                try clear hx530_0
                try clear hx530_1
                try clear hx530_2
                try clear hx531_0
                try clear hx532_0
                try clear hx533_0
                try clear p2
                try clear p529
                try clear p530
                try clear p531
                try clear p532
                try clear p533
                try clear q529
                try clear q530
                try clear q531
                try clear q532
                try clear q533
                obtain ⟨x5_3, x10_3, rfl, HA, HK3, HO_5, HO_7, HB⟩ := hrel
                cases gk with
                | zero => exact absurd HA.out (by simp [turndownref08_Turnover.l3])
                | succ k3 =>
                  have H := HA.out
                  clear HA
                  simp only [turndownref08_Turnover.l3] at H
                  by_cases c17 : x10_3 < (x7_2.length : Int)
                  · rw [if_pos c17] at H
                    have c17b0 : decide (x10_3 < (x7_2.length : Int)) = true := decide_eq_true c17
                    clear c17
                    by_cases c18 : 0 ≤ x10_3
                    · rw [if_pos c18] at H
                      have c18b0 : decide (0 ≤ x10_3) = true := decide_eq_true c18
                      clear c18
                      by_cases c19 : x5_3.length < 8796093022208
                      · rw [if_pos c19] at H
                        have LMc19 := Aside0.mk c19
                        clear c19
                        obtain ⟨y538, hy538⟩ : ∃ y_ : List (S24), y_ = (x5_3 ++ [(⟨x6_1, rd x7_2 x10_3⟩ : S24)]) := ⟨_, rfl⟩
                        replace H : (turndownref08_Turnover.l3 k3 l0 l1 y538 x6_1 x7_2 (wrap64 (x10_3 + 1))) = some r := by first | (rw [hy538]; with_reducible exact H) | (have H2_ := (Option.bind_some _ _).symm.trans H; rw [hy538]; with_reducible exact H2_) | (have H2_ := (Option.bind_some _ _).symm.trans H; with_reducible exact H2_) | with_reducible exact H | (rw [hy538]; exact H) | exact H
                        have Ny538 := Aside0.mk hy538
                        clear hy538
                        have H' := Aside0.mk H
                        clear H
                        obtain ⟨Ao20, co20, eo20⟩ := Kd.R_slice HO_7.out
                        subst eo20
                        have p537 : 0 ≤ (x10_3 : Int) := of_decide_eq_true (by first | (with_reducible assumption) | assumption)
                        have q537 : x10_3 < (x7_2.length : Int) := of_decide_eq_true (by first | (with_reducible assumption) | assumption)
                        obtain ⟨ad537, e537, hx537_0⟩ := Kd.at_int (Kd.R_reads' HO_7.out).2.2 x10_3 p537 q537
                        cases e537
                        replace p537 := eq_true p537
                        replace q537 := eq_true q537
                        go_wp2_with (first | ((with_reducible refine gate_builtin (b := .append) (xs := #[.tmp 66, .tmp 73]) rfl ?_); at_builtin; refine Kd.R_append k24 (w0 := w) w.heap.size rfl (.tmp 66) (.tmp 73) 63 24 (.agg #[(.int .i64 0), (.int .i64 0)]) 16 rfl Try.underlying63 info24 rfl (by decide) (by omega) u5 x5_3 (⟨x6_1, rd x7_2 x10_3⟩ : S24) [.int .i64 x6_1, .int .i64 (rd x7_2 x10_3)] (fun _ => True) (fun _ => False) rfl rfl ?aP (fun _ hk => hk.elim) ?aF ?aO ?aB ?aS ?aL ?_; (case aP => exact k24_mkM _ _ _ (⟨x6_1, rd x7_2 x10_3⟩ : S24)); (case aB => exact (by repeat (first | (with_reducible first | exact HB.out | apply below_alloc | apply pw_below_drewN | apply below_drew1) | exact HB.out))); (case aF => exact (fun _ _ => trivial)); (case aO => exact (by (with_reducible repeat (first | apply Kd.R_alloc | apply Kd.R_drewN | apply Kd.R_drew)); exact HO_5.out)); (case aS => exact (below_size (by repeat (first | (with_reducible first | exact HB.out | apply below_alloc | apply pw_below_drewN | apply below_drew1) | exact HB.out)))); (case aL => have := LMc19.out; omega); intro v539 w21 ho hb hg hat; rw [← Ny538.out] at ho; have n0_ := Aside0.mk (Kd.R_over' (by (with_reducible repeat (first | apply Kd.R_alloc | apply Kd.R_drewN | apply Kd.R_drew)); exact HO_7.out) (Kd.R_typed (by (with_reducible repeat (first | apply Kd.R_alloc | apply Kd.R_drewN | apply Kd.R_drew)); exact HO_5.out)) (by decide) hg); have n1_ := Aside0.mk (hb); have n2_ := Aside0.mk (ho); clear HO_7; clear HB; clear HO_5; have HO_7 := n0_; have HB := n1_; have HO540 := n2_; clear n0_ n1_ n2_; clear ho hb hg hat))
                        repeat (go_quiet (first | ((with_reducible refine gate_builtin (b := .append) (xs := #[.tmp 66, .tmp 73]) rfl ?_); at_builtin; refine Kd.R_append k24 (w0 := w) w.heap.size rfl (.tmp 66) (.tmp 73) 63 24 (.agg #[(.int .i64 0), (.int .i64 0)]) 16 rfl Try.underlying63 info24 rfl (by decide) (by omega) u5 x5_3 (⟨x6_1, rd x7_2 x10_3⟩ : S24) [.int .i64 x6_1, .int .i64 (rd x7_2 x10_3)] (fun _ => True) (fun _ => False) rfl rfl ?aP (fun _ hk => hk.elim) ?aF ?aO ?aB ?aS ?aL ?_; (case aP => exact k24_mkM _ _ _ (⟨x6_1, rd x7_2 x10_3⟩ : S24)); (case aB => exact (by repeat (first | (with_reducible first | exact HB.out | apply below_alloc | apply pw_below_drewN | apply below_drew1) | exact HB.out))); (case aF => exact (fun _ _ => trivial)); (case aO => exact (by (with_reducible repeat (first | apply Kd.R_alloc | apply Kd.R_drewN | apply Kd.R_drew)); exact HO_5.out)); (case aS => exact (below_size (by repeat (first | (with_reducible first | exact HB.out | apply below_alloc | apply pw_below_drewN | apply below_drew1) | exact HB.out)))); (case aL => have := LMc19.out; omega); intro v539 w21 ho hb hg hat; rw [← Ny538.out] at ho; have n0_ := Aside0.mk (Kd.R_over' (by (with_reducible repeat (first | apply Kd.R_alloc | apply Kd.R_drewN | apply Kd.R_drew)); exact HO_7.out) (Kd.R_typed (by (with_reducible repeat (first | apply Kd.R_alloc | apply Kd.R_drewN | apply Kd.R_drew)); exact HO_5.out)) (by decide) hg); have n1_ := Aside0.mk (hb); have n2_ := Aside0.mk (ho); clear HO_7; clear HB; clear HO_5; have HO_7 := n0_; have HB := n1_; have HO540 := n2_; clear n0_ n1_ n2_; clear ho hb hg hat)); try go_wp2_with (first | ((with_reducible refine gate_builtin (b := .append) (xs := #[.tmp 66, .tmp 73]) rfl ?_); at_builtin; refine Kd.R_append k24 (w0 := w) w.heap.size rfl (.tmp 66) (.tmp 73) 63 24 (.agg #[(.int .i64 0), (.int .i64 0)]) 16 rfl Try.underlying63 info24 rfl (by decide) (by omega) u5 x5_3 (⟨x6_1, rd x7_2 x10_3⟩ : S24) [.int .i64 x6_1, .int .i64 (rd x7_2 x10_3)] (fun _ => True) (fun _ => False) rfl rfl ?aP (fun _ hk => hk.elim) ?aF ?aO ?aB ?aS ?aL ?_; (case aP => exact k24_mkM _ _ _ (⟨x6_1, rd x7_2 x10_3⟩ : S24)); (case aB => exact (by repeat (first | (with_reducible first | exact HB.out | apply below_alloc | apply pw_below_drewN | apply below_drew1) | exact HB.out))); (case aF => exact (fun _ _ => trivial)); (case aO => exact (by (with_reducible repeat (first | apply Kd.R_alloc | apply Kd.R_drewN | apply Kd.R_drew)); exact HO_5.out)); (case aS => exact (below_size (by repeat (first | (with_reducible first | exact HB.out | apply below_alloc | apply pw_below_drewN | apply below_drew1) | exact HB.out)))); (case aL => have := LMc19.out; omega); intro v539 w21 ho hb hg hat; rw [← Ny538.out] at ho; have n0_ := Aside0.mk (Kd.R_over' (by (with_reducible repeat (first | apply Kd.R_alloc | apply Kd.R_drewN | apply Kd.R_drew)); exact HO_7.out) (Kd.R_typed (by (with_reducible repeat (first | apply Kd.R_alloc | apply Kd.R_drewN | apply Kd.R_drew)); exact HO_5.out)) (by decide) hg); have n1_ := Aside0.mk (hb); have n2_ := Aside0.mk (ho); clear HO_7; clear HB; clear HO_5; have HO_7 := n0_; have HB := n1_; have HO540 := n2_; clear n0_ n1_ n2_; clear ho hb hg hat)))
                        go_roundg k3
                        case measure => have := HK1.out; have := HK2.out; have := HK3.out; omega
                        case rel => exact ⟨(y538), (wrap64 (x10_3 + 1)), (by first | rfl | (simp; done) | (simp [*]; done)), H', ⟨by have := HK1.out; have := HK2.out; have := HK3.out; omega⟩, ⟨by (with_reducible repeat (first | apply Kd.R_alloc | apply Kd.R_drewN | apply Kd.R_drew)); exact HO540.out⟩, ⟨by (with_reducible repeat (first | apply Kd.R_alloc | apply Kd.R_drewN | apply Kd.R_drew)); exact HO_7.out⟩, ⟨by repeat (first | (with_reducible first | exact HB.out | apply below_alloc | apply pw_below_drewN | apply below_drew1) | exact HB.out)⟩⟩
                      · rw [if_neg c19] at H
                        exact absurd H (by simp)
                    · rw [if_neg c18] at H
                      exact absurd H (by simp)
                  · rw [if_neg c17] at H
                    have c17b0 : decide (x10_3 < (x7_2.length : Int)) = false := decide_eq_false c17
                    clear c17
                    have H' := Aside0.mk H
                    clear H
                    obtain ⟨Ao22, co22, eo22⟩ := Kd.R_slice HO_7.out
                    subst eo22
                    go_wp2
                    repeat (go_quiet (fail); try go_wp2)
                    go_roundg k3
                    case measure => have := HK1.out; have := HK2.out; have := HK3.out; omega
                    case rel => exact ⟨(x5_3), (wrap64 (x6_1 + 1)), (by first | rfl | (simp; done) | (simp [*]; done)), H', ⟨by have := HK1.out; have := HK2.out; have := HK3.out; omega⟩, ⟨by (with_reducible repeat (first | apply Kd.R_alloc | apply Kd.R_drewN | apply Kd.R_drew)); exact HO_5.out⟩, ⟨by repeat (first | (with_reducible first | exact HB.out | apply below_alloc | apply pw_below_drewN | apply below_drew1) | exact HB.out)⟩⟩
      · rw [if_neg c3] at H
        have c3b0 : decide (x6_1 ≤ 60) = false := decide_eq_false c3
        clear c3
        obtain rfl := Option.some.inj H
        go_wp2
        repeat (go_quiet (fail); try go_wp2)
        go_ret
        exact ⟨_, by first | rfl | (simp [errW_none, errW_some] <;> rfl) | (simp [*, errW_none, errW_some] <;> rfl), by (with_reducible repeat (first | apply Kd.R_alloc | apply Kd.R_drewN | apply Kd.R_drew)); exact HO_5.out, by repeat (first | (with_reducible first | exact HB.out | apply below_alloc | apply pw_below_drewN | apply below_drew1) | exact HB.out)⟩
end Go.Proofs.Ytpjobcnfjpbaeaa.PA

set_option linter.unusedVariables false
set_option linter.unusedSimpArgs false
namespace Go.Proofs.Ytpjobcnfjpbaeaa.M
def sumTo : Nat → (Nat → Int) → Int
  | 0, _ => 0
  | n + 1, f => sumTo n f + f n
theorem sumTo_congr {n : Nat} {f g : Nat → Int} (h : ∀ i, i < n → f i = g i) : sumTo n f = sumTo n g := by
  induction n with
  | zero => rfl
  | succ n ih => simp only [sumTo]; rw [ih (fun i hi => h i (by omega)), h n (by omega)]
theorem sumTo_add (n : Nat) (f g : Nat → Int) : sumTo n (fun i => f i + g i) = sumTo n f + sumTo n g := by
  induction n with
  | zero => rfl
  | succ n ih => simp only [sumTo]; omega
theorem sumTo_mul (n : Nat) (c : Int) (f : Nat → Int) : sumTo n (fun i => c * f i) = c * sumTo n f := by
  induction n with
  | zero => simp [sumTo]
  | succ n ih => simp only [sumTo]; rw [ih, Int.mul_add]
theorem sumTo_zero {n : Nat} {f : Nat → Int} (h : ∀ i, i < n → f i = 0) : sumTo n f = 0 := by
  induction n with
  | zero => rfl
  | succ n ih => simp only [sumTo]; rw [ih (fun i hi => h i (by omega)), h n (by omega)]; rfl
theorem sumTo_le {n : Nat} {f g : Nat → Int} (h : ∀ i, i < n → f i ≤ g i) : sumTo n f ≤ sumTo n g := by
  induction n with
  | zero => exact Int.le_refl _
  | succ n ih => simp only [sumTo]; have := ih (fun i hi => h i (by omega)); have := h n (by omega); omega
theorem sumTo_nonneg {n : Nat} {f : Nat → Int} (h : ∀ i, i < n → 0 ≤ f i) : 0 ≤ sumTo n f := by
  have := sumTo_le (f := fun _ => 0) (g := f) h
  rw [sumTo_zero (fun _ _ => rfl)] at this
  exact this
theorem sumTo_const (n : Nat) (c : Int) : sumTo n (fun _ => c) = n * c := by
  induction n with
  | zero => simp [sumTo]
  | succ n ih => simp only [sumTo]; rw [ih, Int.natCast_succ, Int.add_mul, Int.one_mul]
theorem sumTo_bound {n : Nat} {f : Nat → Int} {c : Int} (h : ∀ i, i < n → f i ≤ c) : sumTo n f ≤ n * c := by
  rw [← sumTo_const]; exact sumTo_le h
theorem sumTo_one {n j : Nat} {f g : Nat → Int} (hj : j < n) (h : ∀ i, i < n → i ≠ j → g i = f i) : sumTo n g = sumTo n f + (g j - f j) := by
  induction n with
  | zero => omega
  | succ n ih =>
    simp only [sumTo]
    by_cases e : j = n
    · subst e; rw [sumTo_congr (fun i hi => h i (by omega) (by omega))]; omega
    · rw [ih (by omega) (fun i hi hn => h i (by omega) hn), h n (by omega) (by omega)]; omega
theorem sumTo_comm (n m : Nat) (f : Nat → Nat → Int) : sumTo n (fun i => sumTo m (fun k => f i k)) = sumTo m (fun k => sumTo n (fun i => f i k)) := by
  induction n with
  | zero => simp only [sumTo]; exact (sumTo_zero (fun _ _ => rfl)).symm
  | succ n ih => simp only [sumTo]; rw [ih, sumTo_add]
theorem sumTo_split (n m : Nat) (f : Nat → Int) : sumTo (n + m) f = sumTo n f + sumTo m (fun i => f (n + i)) := by
  induction m with
  | zero => simp [sumTo]
  | succ m ih => rw [← Nat.add_assoc]; simp only [sumTo]; rw [ih]; omega
def upd {α : Type} (f : Nat → α) (k : Nat) (x : α) : Nat → α := fun i => if i = k then x else f i
theorem upd_same {α : Type} (f : Nat → α) (k : Nat) (x : α) : upd f k x k = x := by simp [upd]
theorem upd_ne {α : Type} {f : Nat → α} {k i : Nat} {x : α} (h : i ≠ k) : upd f k x i = f i := by simp [upd, h]
def near (C : Nat) (p : Nat → Nat) : Nat → Nat → Bool
  | 0, _ => false
  | k + 1, y => near C p k y || (decide (p k ≤ y) && decide (y < p k + C))
def many (C : Nat) (p : Nat → Nat) (k : Nat) : Nat → Nat
  | 0 => 0
  | n + 1 => many C p k n + if near C p k n then 1 else 0
end Go.Proofs.Ytpjobcnfjpbaeaa.M

set_option linter.unusedVariables false
set_option linter.unusedSimpArgs false
namespace Go.Proofs.Ytpjobcnfjpbaeaa.M
structure Net (m : Nat) (R : Nat → Nat → Nat → Int → Prop) : Prop where
  lt : ∀ {i u v g}, R i u v g → u < m ∧ v < m
  gain : ∀ {i u v g}, R i u v g → -1000000 ≤ g ∧ g ≤ 1000000
  det : ∀ {i u v g u' v' g'}, R i u v g → R i u' v' g' → u = u' ∧ v = v' ∧ g = g'
def cnt (m : Nat) (far : Int) (G : Nat → Int) : Int := sumTo m (fun v => if G v = far then 0 else 1)
theorem cnt_bd (m : Nat) (far : Int) (G : Nat → Int) : 0 ≤ cnt m far G ∧ cnt m far G ≤ m := by
  constructor
  · exact sumTo_nonneg (fun i _ => by show 0 ≤ ite _ _ _; split <;> omega)
  · have := sumTo_bound (n := m) (f := fun v => if G v = far then (0 : Int) else 1) (c := 1) (fun i _ => by show ite _ _ _ ≤ _; split <;> omega)
    unfold cnt; omega
def Bnd (m : Nat) (far : Int) (U G : Nat → Int) : Prop := ∀ v, v < m → G v = far ∨ (-(cnt m far G * 1000000) ≤ G v ∧ G v ≤ U v)
def slack (m : Nat) (U G : Nat → Int) : Int := sumTo m (fun v => U v - G v)
theorem Bnd.low {m : Nat} {far : Int} {U G : Nat → Int} (h : Bnd m far U G) {v : Nat} (hv : v < m) (hn : G v ≠ far) : -(m * 1000000) ≤ G v ∧ G v ≤ U v := by
  have h1 := cnt_bd m far G
  rcases h v hv with h2 | h2
  · exact absurd h2 hn
  · omega
theorem Bnd.step {m : Nat} {far : Int} {U G : Nat → Int} (h : Bnd m far U G) (hm : m ≤ 1000) (hfar : far ≤ -100000000000) {u v : Nat} {g : Int} (hu : u < m) (hv : v < m) (hg : -1000000 ≤ g ∧ g ≤ 1000000)
    (hU : U u + g ≤ U v) (hfu : G u ≠ far) (himp : G v < G u + g) : Bnd m far U (upd G v (G u + g)) ∧ slack m U (upd G v (G u + g)) + 1 ≤ slack m U G := by
  have hu1 := h.low hu hfu
  have hc := cnt_bd m far G
  have hne : G u + g ≠ far := by omega
  have e : cnt m far (upd G v (G u + g)) = cnt m far G + (1 - if G v = far then 0 else 1) := by
    unfold cnt
    rw [sumTo_one hv (f := fun v => if G v = far then (0 : Int) else 1) (fun i _ hi => by simp only [upd_ne hi])]
    simp only [upd_same, hne, if_false]
  refine ⟨fun w hw => ?_, ?_⟩
  · by_cases hwv : w = v
    · subst hwv
      rw [upd_same]
      right
      rw [e]
      refine ⟨?_, by omega⟩
      by_cases hf : G w = far
      · rcases h u hu with h2 | h2
        · exact absurd h2 hfu
        · rw [if_pos hf]; omega
      · rcases h w hw with h2 | h2
        · exact absurd h2 hf
        · rw [if_neg hf]; omega
    · rw [upd_ne hwv]
      rcases h w hw with h2 | h2
      · exact Or.inl h2
      · right
        rw [e]
        split <;> omega
  · unfold slack
    rw [sumTo_one hv (f := fun v => U v - G v) (fun i _ hi => by simp only [upd_ne hi])]
    simp only [upd_same]
    omega
def RN (R : Nat → Nat → Nat → Int → Prop) (B : Nat → Nat) (r : Nat) : Nat → Nat → Prop
  | 0, v => v = r
  | n + 1, v => v ≠ r ∧ ∃ u g, R (B v) u v g ∧ RN R B r n u
theorem RN.uniq {m : Nat} {R : Nat → Nat → Nat → Int → Prop} (hN : Net m R) {B : Nat → Nat} {r : Nat} : ∀ {n n' v}, RN R B r n v → RN R B r n' v → n = n' := by
  intro n
  induction n with
  | zero =>
    intro n' v h h'
    cases n' with
    | zero => rfl
    | succ n' => exact absurd h h'.1
  | succ n ih =>
    intro n' v h h'
    cases n' with
    | zero => exact absurd h' h.1
    | succ n' =>
      obtain ⟨_, u, g, h1, h2⟩ := h
      obtain ⟨_, u', g', h1', h2'⟩ := h'
      obtain ⟨rfl, _, _⟩ := hN.det h1 h1'
      rw [ih h2 h2']
structure Tree (m : Nat) (R : Nat → Nat → Nat → Int → Prop) (far : Int) (r : Nat) (U G : Nat → Int) (B : Nat → Nat) : Prop where
  root : G r = 0 ∧ U r = 0
  par : ∀ v, v < m → G v ≠ far → v = r ∨ ∃ u g, R (B v) u v g ∧ G u ≠ far ∧ G v ≤ G u + g
  way : ∀ v, v < m → G v ≠ far → ∃ n, RN R B r n v
theorem Tree.step {m : Nat} {R : Nat → Nat → Nat → Int → Prop} (hN : Net m R) {far : Int} {r : Nat} {U G : Nat → Int} {B : Nat → Nat} (h : Tree m R far r U G B) (hb : Bnd m far U G) (hm : m ≤ 1000) (hfar : far ≤ -100000000000) (hfe : ∀ i u v g, R i u v g → U u + g ≤ U v)
    {i u v : Nat} {g : Int} (hr : R i u v g) (hfu : G u ≠ far) (himp : G v < G u + g) : Tree m R far r U (upd G v (G u + g)) (upd B v i) := by
  obtain ⟨hu, hv⟩ := hN.lt hr
  have hg := hN.gain hr
  have hu1 := hb.low hu hfu
  have hne : G u + g ≠ far := by omega
  have hUuv := hfe _ _ _ _ hr
  have hvr : v ≠ r := by
    rintro rfl
    have := h.root
    omega
  have keep : ∀ n x, x < m → RN R B r n x → G x ≠ far → (G v ≠ far → U x - G x < U v - G v) → RN R (upd B v i) r n x := by
    intro n
    induction n with
    | zero => intro x _ hx _ _; exact hx
    | succ n ih =>
      intro x hxm hx hfx hs
      obtain ⟨hxr, y, g', hy, hny⟩ := hx
      have hxv : x ≠ v := by
        rintro rfl
        have := hs hfx
        omega
      refine ⟨hxr, y, g', by rw [upd_ne hxv]; exact hy, ?_⟩
      rcases h.par x hxm hfx with h1 | ⟨y', g2, h1, h2, h3⟩
      · exact absurd h1 hxr
      · obtain ⟨rfl, _, rfl⟩ := hN.det hy h1
        refine ih y (hN.lt hy).1 hny h2 (fun hfv => ?_)
        have := hs hfv
        have := hfe _ _ _ _ hy
        omega
  obtain ⟨nu, hnu⟩ := h.way u hu hfu
  have hway : RN R (upd B v i) r (nu + 1) v := ⟨hvr, u, g, by rw [upd_same]; exact hr, keep nu u hu hnu hfu (fun hfv => by omega)⟩
  have far' : ∀ x, x ≠ v → upd G v (G u + g) x = G x := fun x hx => upd_ne hx
  refine ⟨⟨by rw [far' r (Ne.symm hvr)]; exact h.root.1, h.root.2⟩, fun x hx hfx => ?_, fun x hx hfx => ?_⟩
  · by_cases hxv : x = v
    · subst hxv
      refine Or.inr ⟨u, g, by rw [upd_same]; exact hr, ?_, ?_⟩
      · by_cases huv : u = x
        · subst huv; rw [upd_same]; exact hne
        · rw [upd_ne huv]; exact hfu
      · rw [upd_same]
        by_cases huv : u = x
        · subst huv; rw [upd_same]; omega
        · rw [upd_ne huv]; omega
    · rw [upd_ne hxv] at hfx ⊢
      rw [upd_ne hxv]
      rcases h.par x hx hfx with h1 | ⟨y, g2, h1, h2, h3⟩
      · exact Or.inl h1
      · refine Or.inr ⟨y, g2, h1, ?_, ?_⟩
        · by_cases hyv : y = v
          · subst hyv; rw [upd_same]; exact hne
          · rw [upd_ne hyv]; exact h2
        · by_cases hyv : y = v
          · subst hyv; rw [upd_same]; omega
          · rw [upd_ne hyv]; exact h3
  · by_cases hxv : x = v
    · subst hxv; exact ⟨_, hway⟩
    · rw [upd_ne hxv] at hfx
      have all : ∀ n x, x < m → RN R B r n x → ∃ n', RN R (upd B v i) r n' x := by
        intro n
        induction n with
        | zero => intro x _ hx; exact ⟨0, hx⟩
        | succ n ih =>
          intro x hxm hx
          by_cases hxv : x = v
          · subst hxv; exact ⟨_, hway⟩
          · obtain ⟨hxr, y, g', hy, hny⟩ := hx
            obtain ⟨n', hn'⟩ := ih y (hN.lt hy).1 hny
            exact ⟨n' + 1, hxr, y, g', by rw [upd_ne hxv]; exact hy, hn'⟩
      obtain ⟨n, hn⟩ := h.way x hx hfx
      exact all n x hx hn
end Go.Proofs.Ytpjobcnfjpbaeaa.M

set_option linter.unusedVariables false
set_option linter.unusedSimpArgs false
namespace Go.Proofs.Ytpjobcnfjpbaeaa.M
structure Pairs where
  n : Nat
  F : Nat → Nat
  T : Nat → Nat
  g : Nat → Int
  c : Nat → Int
structure Pairs.Ok (P : Pairs) (m : Nat) : Prop where
  ends : ∀ j, j < P.n → P.F j < m ∧ P.T j < m
  gain : ∀ j, j < P.n → -1000000 ≤ P.g j ∧ P.g j ≤ 1000000
def Pairs.Res (P : Pairs) (φ : Nat → Int) (i u v : Nat) (x : Int) : Prop :=
  i / 2 < P.n ∧ ((i % 2 = 0 ∧ u = P.F (i / 2) ∧ v = P.T (i / 2) ∧ x = P.g (i / 2) ∧ φ (i / 2) < P.c (i / 2)) ∨ (i % 2 = 1 ∧ u = P.T (i / 2) ∧ v = P.F (i / 2) ∧ x = -P.g (i / 2) ∧ 0 < φ (i / 2)))
def Pairs.Cap (P : Pairs) (φ : Nat → Int) : Prop := ∀ j, j < P.n → 0 ≤ φ j ∧ φ j ≤ P.c j
def Pairs.Feas (P : Pairs) (φ d : Nat → Int) : Prop := ∀ i u v x, P.Res φ i u v x → d u + x ≤ d v
def Pairs.div (P : Pairs) (φ χ : Nat → Int) : Int := sumTo P.n (fun j => φ j * (χ (P.F j) - χ (P.T j)))
def Pairs.worth (P : Pairs) (φ : Nat → Int) : Int := sumTo P.n (fun j => φ j * P.g j)
def send (φ : Nat → Int) (i : Nat) : Nat → Int := upd φ (i / 2) (if i % 2 = 0 then φ (i / 2) + 1 else φ (i / 2) - 1)
def Pairs.tail (P : Pairs) (i : Nat) : Nat := if i % 2 = 0 then P.F (i / 2) else P.T (i / 2)
theorem Pairs.Res.det {P : Pairs} {φ ψ : Nat → Int} {i u v u' v' : Nat} {x x' : Int} (h : P.Res φ i u v x) (h' : P.Res ψ i u' v' x') : u = u' ∧ v = v' ∧ x = x' := by
  obtain ⟨_, h1⟩ := h
  obtain ⟨_, h2⟩ := h'
  rcases h1 with ⟨a, rfl, rfl, rfl, _⟩ | ⟨a, rfl, rfl, rfl, _⟩ <;> rcases h2 with ⟨b, rfl, rfl, rfl, _⟩ | ⟨b, rfl, rfl, rfl, _⟩
  · exact ⟨rfl, rfl, rfl⟩
  · omega
  · omega
  · exact ⟨rfl, rfl, rfl⟩
theorem Pairs.Res.tail {P : Pairs} {φ : Nat → Int} {i u v : Nat} {x : Int} (h : P.Res φ i u v x) : P.tail i = u := by
  obtain ⟨_, h1⟩ := h
  unfold Pairs.tail
  rcases h1 with ⟨a, rfl, rfl, rfl, _⟩ | ⟨a, rfl, rfl, rfl, _⟩
  · rw [if_pos a]
  · rw [if_neg (by omega)]
theorem Pairs.Ok.net {P : Pairs} {m : Nat} (h : P.Ok m) (φ : Nat → Int) : Net m (P.Res φ) := {
  lt := by
    rintro i u v g ⟨hi, ⟨_, rfl, rfl, _, _⟩ | ⟨_, rfl, rfl, _, _⟩⟩
    · exact h.ends _ hi
    · exact ⟨(h.ends _ hi).2, (h.ends _ hi).1⟩
  gain := by
    rintro i u v g ⟨hi, ⟨_, _, _, rfl, _⟩ | ⟨_, _, _, rfl, _⟩⟩
    · exact h.gain _ hi
    · have := h.gain _ hi; omega
  det := fun h1 h2 => h1.det h2 }
theorem send_step {P : Pairs} {φ d : Nat → Int} {i u v : Nat} {x : Int} (hr : P.Res φ i u v x) (hc : P.Cap φ) (hf : P.Feas φ d) (ht : d u + x = d v) :
    P.Cap (send φ i) ∧ P.Feas (send φ i) d ∧ (∀ χ, P.div (send φ i) χ = P.div φ χ + (χ u - χ v)) ∧ P.worth (send φ i) = P.worth φ + x := by
  obtain ⟨hi, hr'⟩ := hr
  have hsum : ∀ w : Nat → Int, sumTo P.n (fun j => send φ i j * w j) = sumTo P.n (fun j => φ j * w j) + (if i % 2 = 0 then w (i / 2) else - w (i / 2)) := by
    intro w
    rw [sumTo_one hi (f := fun j => φ j * w j) (fun j _ hj => by simp only [send, upd_ne hj])]
    simp only [send, upd_same]
    split
    · rw [Int.add_mul]; omega
    · rw [Int.sub_mul]; omega
  refine ⟨fun j hj => ?_, fun i' u' v' x' h' => ?_, fun χ => ?_, ?_⟩
  · have h0 := hc j hj
    by_cases e : j = i / 2
    · subst e
      simp only [send, upd_same]
      rcases hr' with ⟨a, _, _, _, h1⟩ | ⟨a, _, _, _, h1⟩
      · rw [if_pos a]; omega
      · rw [if_neg (by omega)]; omega
    · simp only [send, upd_ne e]; exact h0
  · by_cases e : i' / 2 = i / 2
    · rcases h' with ⟨hi', ⟨b, rfl, rfl, rfl, h2⟩ | ⟨b, rfl, rfl, rfl, h2⟩⟩
      · rw [e] at h2 ⊢
        rcases hr' with ⟨a, rfl, rfl, rfl, h1⟩ | ⟨a, rfl, rfl, rfl, h1⟩
        · omega
        · omega
      · rw [e] at h2 ⊢
        rcases hr' with ⟨a, rfl, rfl, rfl, h1⟩ | ⟨a, rfl, rfl, rfl, h1⟩
        · omega
        · omega
    · refine hf i' u' v' x' ⟨h'.1, ?_⟩
      have h2 := h'.2
      simp only [send, upd_ne e] at h2
      exact h2
  · unfold Pairs.div
    rw [hsum]
    rcases hr' with ⟨a, rfl, rfl, rfl, _⟩ | ⟨a, rfl, rfl, rfl, _⟩
    · rw [if_pos a]
    · rw [if_neg (by omega)]; omega
  · unfold Pairs.worth
    rw [hsum]
    rcases hr' with ⟨a, rfl, rfl, rfl, _⟩ | ⟨a, rfl, rfl, rfl, _⟩
    · rw [if_pos a]
    · rw [if_neg (by omega)]
theorem Pairs.Res.send_ne {P : Pairs} {φ : Nat → Int} {i i' u v : Nat} {x : Int} (h : P.Res φ i' u v x) (hne : i' ≠ i) : P.Res (send φ i) i' u v x := by
  obtain ⟨hi, h1⟩ := h
  refine ⟨hi, ?_⟩
  by_cases e : i' / 2 = i / 2
  · have hpar : i' % 2 ≠ i % 2 := by omega
    rcases h1 with ⟨a, rfl, rfl, rfl, h2⟩ | ⟨a, rfl, rfl, rfl, h2⟩
    · left
      refine ⟨a, rfl, rfl, rfl, ?_⟩
      simp only [send, e, upd_same]
      rw [if_neg (by omega)]
      rw [e] at h2
      omega
    · right
      refine ⟨a, rfl, rfl, rfl, ?_⟩
      simp only [send, e, upd_same]
      rw [if_pos (by omega)]
      rw [e] at h2
      omega
  · simp only [send, upd_ne e]
    exact h1
structure Walk (P : Pairs) (φ0 d : Nat → Int) (B : Nat → Nat) (r n v : Nat) (φ : Nat → Int) : Prop where
  cap : P.Cap φ
  feas : P.Feas φ d
  at_ : RN (P.Res φ0) B r n v
  room : ∀ k x, k + 1 ≤ n → RN (P.Res φ0) B r (k + 1) x → ∃ u y, P.Res φ (B x) u x y ∧ d u + y = d x ∧ RN (P.Res φ0) B r k u
theorem Walk.step {P : Pairs} {m : Nat} (hP : P.Ok m) {φ0 d : Nat → Int} {B : Nat → Nat} {r n v : Nat} {φ : Nat → Int} (h : Walk P φ0 d B r (n + 1) v φ) :
    ∃ u y, P.Res φ (B v) u v y ∧ d u + y = d v ∧ Walk P φ0 d B r n u (send φ (B v)) := by
  obtain ⟨u, y, h1, h2, h3⟩ := h.room n v (Nat.le_refl _) h.at_
  obtain ⟨s1, s2, _, _⟩ := send_step h1 h.cap h.feas h2
  refine ⟨u, y, h1, h2, s1, s2, h3, fun k x hk hx => ?_⟩
  obtain ⟨u', y', h1', h2', h3'⟩ := h.room k x (by omega) hx
  refine ⟨u', y', h1'.send_ne (fun e => ?_), h2', h3'⟩
  rw [e] at h1'
  obtain ⟨_, hvx, _⟩ := h1.det h1'
  subst hvx
  have := RN.uniq (hP.net φ0) hx h.at_
  omega
def pushes (P : Pairs) (B : Nat → Nat) : Nat → (Nat → Int) → Nat → (Nat → Int)
  | 0, φ, _ => φ
  | n + 1, φ, v => pushes P B n (send φ (B v)) (P.tail (B v))
theorem Walk.all {P : Pairs} {m : Nat} (hP : P.Ok m) {φ0 d : Nat → Int} {B : Nat → Nat} {r : Nat} : ∀ {n v φ}, Walk P φ0 d B r n v φ →
    P.Cap (pushes P B n φ v) ∧ P.Feas (pushes P B n φ v) d ∧ (∀ χ, P.div (pushes P B n φ v) χ = P.div φ χ + (χ r - χ v)) ∧ P.worth (pushes P B n φ v) = P.worth φ + (d v - d r) := by
  intro n
  induction n with
  | zero =>
    intro v φ h
    have hv : v = r := h.at_
    subst hv
    refine ⟨h.cap, h.feas, fun χ => ?_, ?_⟩ <;> simp [pushes]
  | succ n ih =>
    intro v φ h
    obtain ⟨u, y, h1, h2, h3⟩ := h.step hP
    obtain ⟨_, _, s3, s4⟩ := send_step h1 h.cap h.feas h2
    simp only [pushes, h1.tail]
    obtain ⟨a, b, c, e⟩ := ih h3
    refine ⟨a, b, fun χ => ?_, ?_⟩
    · rw [c, s3]; omega
    · rw [e, s4]; omega
def Pairs.push (P : Pairs) (f t : Nat) (g c : Int) : Pairs := ⟨P.n + 1, upd P.F P.n f, upd P.T P.n t, upd P.g P.n g, upd P.c P.n c⟩
theorem Pairs.Ok.push {P : Pairs} {m : Nat} (h : P.Ok m) {f t : Nat} {g c : Int} (hf : f < m) (ht : t < m) (hg : -1000000 ≤ g ∧ g ≤ 1000000) : (P.push f t g c).Ok m := {
  ends := fun j hj => by
    simp only [Pairs.push] at hj ⊢
    by_cases e : j = P.n
    · subst e; simp only [upd_same]; exact ⟨hf, ht⟩
    · simp only [upd_ne e]; exact h.ends j (by omega)
  gain := fun j hj => by
    simp only [Pairs.push] at hj ⊢
    by_cases e : j = P.n
    · subst e; simp only [upd_same]; exact hg
    · simp only [upd_ne e]; exact h.gain j (by omega) }
end Go.Proofs.Ytpjobcnfjpbaeaa.M

set_option linter.unusedVariables false
set_option linter.unusedSimpArgs false
namespace Go.Proofs.Ytpjobcnfjpbaeaa.M
structure Inst where
  L : Nat
  f : Nat → Nat
  t : Nat → Nat
  p : Nat → Int
  n : Nat
  R : Nat → Int
structure Inst.Ok (I : Inst) : Prop where
  few : I.L ≤ 40 ∧ I.n ≤ 60
  nights : ∀ i, i < I.L → I.f i < I.t i ∧ I.t i ≤ I.n
  price : ∀ i, i < I.L → 0 ≤ I.p i ∧ I.p i ≤ 1000000
  room : ∀ k, k < I.n → 0 ≤ I.R k ∧ I.R k ≤ 8
def Inst.cov (I : Inst) (i k : Nat) : Int := if I.f i ≤ k ∧ k < I.t i then 1 else 0
structure Inst.Fit (I : Inst) (X : Nat → Int) : Prop where
  one : ∀ i, i < I.L → X i = 0 ∨ X i = 1
  fit : ∀ k, k < I.n → sumTo I.L (fun i => X i * I.cov i k) ≤ I.R k
def Inst.Rev (I : Inst) (X : Nat → Int) : Int := sumTo I.L (fun i => X i * I.p i)
def Inst.pay (I : Inst) (q : Nat → Int) (i : Nat) : Int := sumTo (I.t i - I.f i) (fun k => q (I.f i + k))
def Inst.Bd (I : Inst) (q : Nat → Int) : Int := sumTo I.n (fun k => I.R k * q k) + sumTo I.L (fun i => max 0 (I.p i - I.pay q i))
theorem sumTo_part (n a b : Nat) (h : a ≤ b) (hb : b ≤ n) (q : Nat → Int) : sumTo n (fun k => (if a ≤ k ∧ k < b then 1 else 0) * q k) = sumTo (b - a) (fun k => q (a + k)) := by
  have e1 : sumTo n (fun k => (if a ≤ k ∧ k < b then 1 else 0) * q k) = sumTo b (fun k => (if a ≤ k ∧ k < b then 1 else 0) * q k) := by
    have := sumTo_split b (n - b) (fun k => (if a ≤ k ∧ k < b then 1 else 0) * q k)
    rw [show b + (n - b) = n by omega] at this
    rw [this, sumTo_zero (n := n - b)]
    · omega
    · intro i _
      show (if a ≤ b + i ∧ b + i < b then 1 else 0) * q (b + i) = 0
      rw [if_neg (by omega), Int.zero_mul]
  have e2 := sumTo_split a (b - a) (fun k => (if a ≤ k ∧ k < b then 1 else 0) * q k)
  rw [show a + (b - a) = b by omega] at e2
  rw [e1, e2, sumTo_zero (n := a)]
  · rw [Int.zero_add]
    refine sumTo_congr (fun i hi => ?_)
    show (if a ≤ a + i ∧ a + i < b then 1 else 0) * q (a + i) = q (a + i)
    rw [if_pos (by omega), Int.one_mul]
  · intro i hi
    show (if a ≤ i ∧ i < b then 1 else 0) * q i = 0
    rw [if_neg (by omega), Int.zero_mul]
theorem Inst.pay_eq {I : Inst} (hI : I.Ok) (q : Nat → Int) {i : Nat} (hi : i < I.L) : I.pay q i = sumTo I.n (fun k => I.cov i k * q k) := by
  have := hI.nights i hi
  unfold Inst.pay Inst.cov
  exact (sumTo_part I.n (I.f i) (I.t i) (by omega) (by omega) q).symm
theorem Inst.swap {I : Inst} (hI : I.Ok) (X q : Nat → Int) : sumTo I.L (fun i => X i * I.pay q i) = sumTo I.n (fun k => sumTo I.L (fun i => X i * I.cov i k) * q k) := by
  rw [sumTo_congr (g := fun i => sumTo I.n (fun k => X i * I.cov i k * q k)) (fun i hi => by
    rw [I.pay_eq hI q hi, ← sumTo_mul]
    exact sumTo_congr (fun k _ => by rw [Int.mul_assoc]))]
  rw [sumTo_comm]
  refine sumTo_congr (fun k _ => ?_)
  rw [Int.mul_comm, ← sumTo_mul]
  exact sumTo_congr (fun i _ => by rw [Int.mul_comm])
theorem Inst.weak {I : Inst} (hI : I.Ok) {X q : Nat → Int} (hX : I.Fit X) (hq : ∀ k, k < I.n → 0 ≤ q k) : I.Rev X ≤ I.Bd q := by
  have h1 : I.Rev X = sumTo I.L (fun i => X i * (I.p i - I.pay q i)) + sumTo I.L (fun i => X i * I.pay q i) := by
    rw [← sumTo_add]
    exact sumTo_congr (fun i _ => by rw [← Int.mul_add]; congr 1; omega)
  have h2 : sumTo I.L (fun i => X i * (I.p i - I.pay q i)) ≤ sumTo I.L (fun i => max 0 (I.p i - I.pay q i)) := sumTo_le (fun i hi => by
    show X i * (I.p i - I.pay q i) ≤ max 0 (I.p i - I.pay q i)
    rcases hX.one i hi with e | e <;> rw [e]
    · rw [Int.zero_mul]; omega
    · rw [Int.one_mul]; omega)
  have h3 : sumTo I.L (fun i => X i * I.pay q i) ≤ sumTo I.n (fun k => I.R k * q k) := by
    rw [I.swap hI]
    exact sumTo_le (fun k hk => Int.mul_le_mul_of_nonneg_right (hX.fit k hk) (hq k hk))
  unfold Inst.Bd
  omega
def Inst.Opt (I : Inst) (v : Int) : Prop := ∃ X q, I.Fit X ∧ (∀ k, k < I.n → 0 ≤ q k) ∧ I.Rev X = v ∧ I.Bd q = v
theorem Inst.Opt.max {I : Inst} (hI : I.Ok) {v : Int} (h : I.Opt v) {X : Nat → Int} (hX : I.Fit X) : I.Rev X ≤ v := by
  obtain ⟨_, q, _, hq, _, hb⟩ := h
  rw [← hb]
  exact I.weak hI hX hq
theorem Inst.Opt.uniq {I : Inst} (hI : I.Ok) {v w : Int} (h : I.Opt v) (h' : I.Opt w) : v = w := by
  obtain ⟨X, _, hX, _, hv, _⟩ := id h
  obtain ⟨Y, _, hY, _, hw, _⟩ := id h'
  have := h.max hI hY
  have := h'.max hI hX
  omega
def Inst.net (I : Inst) (C : Nat → Int) : Pairs := {
  n := I.n + I.L
  F := fun j => if j < I.n then j else I.f (j - I.n)
  T := fun j => if j < I.n then j + 1 else I.t (j - I.n)
  g := fun j => if j < I.n then 0 else I.p (j - I.n)
  c := fun j => if j < I.n then C j else 1 }
end Go.Proofs.Ytpjobcnfjpbaeaa.M

set_option linter.unusedVariables false
set_option linter.unusedSimpArgs false
namespace Go.Proofs.Ytpjobcnfjpbaeaa.M
structure At (P : Pairs) (j f t : Nat) (g c : Int) : Prop where
  lt : j < P.n
  F : P.F j = f
  T : P.T j = t
  g : P.g j = g
  c : P.c j = c
theorem At.push {P : Pairs} {j f t : Nat} {g c : Int} (h : At P j f t g c) (f' t' : Nat) (g' c' : Int) : At (P.push f' t' g' c') j f t g c := by
  have e : j ≠ P.n := by have := h.lt; omega
  refine ⟨by show j < P.n + 1; have := h.lt; omega, ?_, ?_, ?_, ?_⟩ <;> simp only [Pairs.push, upd_ne e]
  · exact h.F
  · exact h.T
  · exact h.g
  · exact h.c
end Go.Proofs.Ytpjobcnfjpbaeaa.M

set_option linter.unusedVariables false
set_option linter.unusedSimpArgs false
namespace Go.Proofs.Ytpjobcnfjpbaeaa.M
open Go.RowKit Go.Proofs.YtpjobcnfjpbaeaaW.PrintWords Go.Proofs.YtpjobcnfjpbaeaaW.PrintLast Go.Proofs.YtpjobcnfjpbaeaaW.PrintMore
open Go.Proofs.Ytpjobcnfjpbaeaa.PA
structure RepT (P : Pairs) (φ : Nat → Int) (arcs : List S74) : Prop where
  len : arcs.length = 2 * P.n
  fwd : ∀ j, j < P.n → arcs[2 * j]? = some ⟨P.F j, P.T j, P.c j - φ j, -P.g j⟩
  bwd : ∀ j, j < P.n → arcs[2 * j + 1]? = some ⟨P.T j, P.F j, φ j, P.g j⟩
def gn (best : List Int) : Nat → Int := fun v => -(best.getD v 0)
end Go.Proofs.Ytpjobcnfjpbaeaa.M

namespace Go.Proofs.Ytpjobcnfjpbaeaa.PA
open Go.RowKit Go.Proofs.YtpjobcnfjpbaeaaW.PrintWords Go.Proofs.YtpjobcnfjpbaeaaW.PrintLast Go.Proofs.YtpjobcnfjpbaeaaW.PrintMore
attribute [local go_sem] max2_int min2_int max_two min_two max_three min_three max_four min_four
set_option linter.unusedVariables false
set_option linter.unusedSimpArgs false
theorem cells3_ : Try.prog.cellsOf 3 = 1 := by kernel_rfl
theorem eqA24 (d : Nat) (w : World) (x0 y0 : Int) (x1 y1 : Int) :
    (Op.equalIn (d + 2) 24 (.agg #[.int .i64 x0, .int .i64 x1]) (.agg #[.int .i64 y0, .int .i64 y1])).run Try.prog w = .ok (x0 == y0 && (x1 == y1)) w := by
  obtain ⟨i, hi⟩ : ∃ i, Try.prog.info? 3 = some i := by
    have := info3
    cases h : Try.prog.info? 3 with
    | none => rw [h] at this; cases this
    | some i => exact ⟨i, rfl⟩
  rw [run_equalIn_array w (d + 1) _ _ Try.underlying24 hi, cells3_]
  show (Op.eqItems (d + 1) 3 1 #[.int .i64 x0, .int .i64 x1] #[.int .i64 y0, .int .i64 y1] [0, 1]).run Try.prog w = _
  have p0 : ∀ a b : Int, (part 3 #[.int .i64 a, .int .i64 b] 0).run Try.prog w = .ok (.int .i64 a) w := fun a b => by go_simp
  have p1 : ∀ a b : Int, (part 3 #[.int .i64 a, .int .i64 b] 1).run Try.prog w = .ok (.int .i64 b) w := fun a b => by go_simp
  have e : ∀ a b : Int, (Op.equalIn (d + 1) 3 (.int .i64 a) (.int .i64 b)).run Try.prog w = .ok (a == b) w := fun a b => by go_simp
  simp only [Op.eqItems, Sem.run_bind, p0, p1, e, Result.andThen_ok, Nat.zero_mul, Nat.one_mul, Nat.mul_one]
  cases h0 : (x0 == y0)
  · simp
  · cases h1 : (x1 == y1)
    · simp [p1, e, h1]
    · simp [p1, e, h1]
end Go.Proofs.Ytpjobcnfjpbaeaa.PA

set_option linter.unusedVariables false
set_option linter.unusedSimpArgs false
namespace Go.Proofs.Ytpjobcnfjpbaeaa.A
open Go.RowKit Go.Proofs.YtpjobcnfjpbaeaaW.PrintWords Go.Proofs.YtpjobcnfjpbaeaaW.PrintLast Go.Proofs.YtpjobcnfjpbaeaaW.PrintMore
open Go.Proofs.Ytpjobcnfjpbaeaa.PA
def withinB (n lo hi : Int) : Bool := decide (lo ≤ n) && decide (n ≤ hi)
set_option maxHeartbeats 400000 in
theorem within_c (n lo hi : Int) (w : World) :
    Calls Try.prog 42 #[.int .i64 n, .int .i64 lo, .int .i64 hi] w fun e w' => e = .returned (.bool (withinB n lo hi)) ∧ w = w' := by
  unfold withinB
  by_cases h : lo ≤ n
  · have h1 : decide (lo ≤ n) = true := decide_eq_true h
    go_enter Try.func42, Try.ntmps42
    go_wp2
    go_ret
    exact ⟨by simp [h], rfl⟩
  · have h1 : decide (lo ≤ n) = false := decide_eq_false h
    go_enter Try.func42, Try.ntmps42
    go_wp2
    go_ret
    exact ⟨by simp [h], rfl⟩
end Go.Proofs.Ytpjobcnfjpbaeaa.A

set_option linter.unusedVariables false
set_option linter.unusedSimpArgs false
namespace Go.Proofs.Ytpjobcnfjpbaeaa.A
open Go.RowKit Go.Proofs.YtpjobcnfjpbaeaaW.PrintWords Go.Proofs.YtpjobcnfjpbaeaaW.PrintLast Go.Proofs.YtpjobcnfjpbaeaaW.PrintMore
open Go.Proofs.Ytpjobcnfjpbaeaa.PA
def badB (f t p : Int) : Bool := !withinB t 1 60 || (!withinB f 0 (wrap64 (t - 1)) || !withinB p 0 1000000)
set_option maxHeartbeats 400000 in
theorem badB_c (f t p : Int) (w : World) :
    Calls Try.prog 68 #[.agg #[.int .i64 f, .int .i64 t, .int .i64 p]] w fun e w' => e = .returned (.bool (badB f t p)) ∧ Below w.heap.size w w' := by
  obtain ⟨b1, h1⟩ : ∃ b, b = withinB t 1 60 := ⟨_, rfl⟩
  obtain ⟨b2, h2⟩ : ∃ b, b = withinB f 0 (wrap64 (t - 1)) := ⟨_, rfl⟩
  obtain ⟨b3, h3⟩ : ∃ b, b = withinB p 0 1000000 := ⟨_, rfl⟩
  have e : badB f t p = (!b1 || (!b2 || !b3)) := by subst h1 h2 h3; rfl
  rw [e]; clear e
  have H1 := Lib.hid h1
  have H2 := Lib.hid h2
  have H3 := Lib.hid h3
  clear h1 h2 h3
  have hB := (Below.refl w.heap.size w).alloc (Nat.le_refl _) (Obj.cells #[Value.int IntKind.i64 f, Value.int IntKind.i64 t, Value.int IntKind.i64 p] 47)
  cases b1 <;> cases b2 <;> cases b3
  all_goals
    go_enter Try.func68, Try.ntmps68
    go_wp2_with (first
      | ((with_reducible refine (within_c t 1 60 _).mono ?_); rintro e w' ⟨rfl, rfl⟩; rw [← H1.out])
      | ((with_reducible refine (within_c f 0 (wrap64 (t - 1)) _).mono ?_); rintro e w' ⟨rfl, rfl⟩; rw [← H2.out])
      | ((with_reducible refine (within_c p 0 1000000 _).mono ?_); rintro e w' ⟨rfl, rfl⟩; rw [← H3.out]))
    go_ret
    exact ⟨rfl, hB⟩
end Go.Proofs.Ytpjobcnfjpbaeaa.A

set_option linter.unusedVariables false
set_option linter.unusedSimpArgs false
namespace Go.Proofs.Ytpjobcnfjpbaeaa.A
open Go.RowKit Go.Proofs.YtpjobcnfjpbaeaaW.PrintWords Go.Proofs.YtpjobcnfjpbaeaaW.PrintLast Go.Proofs.YtpjobcnfjpbaeaaW.PrintMore
open Go.Proofs.Ytpjobcnfjpbaeaa.PA
theorem ret_int {k : IntKind} {a b : Int} (h : a = b) : Ending.returned (.int k a) = .returned (.int k b) := by rw [h]
abbrev bk (x : S47) : Value := .agg #[.int .i64 x.f0, .int .i64 x.f1, .int .i64 x.f2]
def Enters (g : Nat) : Prop := ∀ args w, (callFunc g args).run Try.prog w = .ok (.enter g args) w
def PredOf {α : Type} (g : Nat) (caps : Array Value) (enc : α → Value) (p : α → Bool) (w : World) : Prop :=
  ∀ (W : World) (x : α), Below w.heap.size w W → Calls Try.prog g (#[enc x] ++ caps) W fun e W' => e = .returned (.bool (p x)) ∧ Below W.heap.size W W'
def idxF {α : Type} (p : α → Bool) (xs : List α) : Int := match xs.findIdx? p with | some i => (i : Int) | none => -1
theorem at_bk {w W : World} {A : Option Addr} {n : Nat} {xs : List S47} (h : Kd.C k47 w A n xs) (hb : Below w.heap.size w W) (k : Nat) (hk : k < xs.length) : ∃ ad x, A = some ad ∧ Hid (xs[k]? = some x) ∧
    W.cell? (ad.add (k * 3)) = some (.int .i64 x.f0) ∧ W.cell? ⟨(ad.add (k * 3)).block, (ad.add (k * 3)).off + 1, none⟩ = some (.int .i64 x.f1) ∧ W.cell? ⟨(ad.add (k * 3)).block, (ad.add (k * 3)).off + 2, none⟩ = some (.int .i64 x.f2) := by
  have hl := h.1
  obtain ⟨ad, eA, h0, h1, h2⟩ := at_T47 h k (by omega) (by omega)
  rw [Int.toNat_natCast] at h0 h1 h2
  refine ⟨ad, rd_T47 xs k, eA, ?_, (hb.cell (World.block_lt_of_cell? w _ h0)).trans h0, (hb.cell (World.block_lt_of_cell? w _ h1)).trans h1, (hb.cell (World.block_lt_of_cell? w _ h2)).trans h2⟩
  show xs[k]? = some (xs.getD (k : Int).toNat z47)
  simp [hk]
theorem idxF_hit {α : Type} {p : α → Bool} {xs : List α} {k : Nat} {x : α} (h : (xs.take k).all (fun x => !p x) = true) (hx : xs[k]? = some x) (hp : p x = true) : idxF p xs = k := by
  have hk : k < xs.length := (List.getElem?_eq_some_iff.1 hx).1
  have e : xs.findIdx? p = some k := by
    rw [List.findIdx?_eq_some_iff_getElem]
    refine ⟨hk, ?_, fun j hj => ?_⟩
    · rw [(List.getElem?_eq_some_iff.1 hx).2]; exact hp
    · rw [List.all_eq_true] at h
      have := h (xs[j]'(by omega)) (by rw [List.mem_take_iff_getElem]; exact ⟨j, by omega, rfl⟩)
      simpa using this
  simp [idxF, e]
theorem idxF_miss {α : Type} {p : α → Bool} {xs : List α} (h : xs.all (fun x => !p x) = true) : idxF p xs = -1 := by
  have e : xs.findIdx? p = none := by
    rw [List.findIdx?_eq_none_iff]
    intro x hx
    rw [List.all_eq_true] at h
    simpa using h x hx
  simp [idxF, e]
theorem all_next {α : Type} {p : α → Bool} {xs : List α} {k : Nat} {x : α} (h : (xs.take k).all (fun x => !p x) = true) (hx : xs[k]? = some x) (hp : p x = false) : (xs.take (k + 1)).all (fun x => !p x) = true := by
  obtain ⟨hk, e⟩ := List.getElem?_eq_some_iff.1 hx
  rw [List.take_succ_eq_append_getElem hk, List.all_append, h, e]
  simp [hp]
set_option maxHeartbeats 400000 in
theorem idxBk_c (g : Nat) (caps : Array Value) (p : S47 → Bool) (A : Option Addr) (c : Nat) (xs : List S47) (w : World)
    (eg : Enters g) (hp : PredOf g caps bk p w) (hr : Kd.C k47 w A xs.length xs) :
    Calls Try.prog 75 #[.slice A xs.length c, .func (.func g) #[] caps] w fun e w' => e = .returned (.int .i64 (idxF p xs)) ∧ Below w.heap.size w w' := by
  have HR := Lib.hid hr
  have HP := Lib.hid hp
  have hl : xs.length ≤ 9223372036854775807 := hr.2.1
  clear hr hp
  unfold Enters at eg
  go_enter Try.func75, Try.ntmps75
  go_wp2_with fail
  go_loopw [5, 8] (fun _ i wr => ∃ k : Nat, i = .int .i64 k ∧ k ≤ xs.length ∧ Hid ((xs.take k).all (fun x => !p x) = true) ∧ Below w.heap.size w wr) (fun _ i _ => xs.length - (intOf i).toNat)
  case atStart => exact ⟨0, rfl, Nat.zero_le _, rfl, Below.refl _ _⟩
  case round =>
    obtain ⟨k, rfl, hk, HA, hB⟩ := hrel
    by_cases hlt : k < xs.length
    · obtain ⟨ad, x, eA, HX, h0, h1, h2⟩ := at_bk HR.out hB k hlt
      cases eA
      have hc := HP.out _ x hB
      obtain ⟨b, hb⟩ : ∃ b, p x = b := ⟨_, rfl⟩
      rw [hb] at hc
      have HPX := Lib.hid hb
      have HC := Lib.hid hc
      clear hb hc
      cases b
      · go_wp2_with ((with_reducible refine HC.out.mono ?_); rintro e w' ⟨rfl, hb1⟩)
        go_roundw
        case rel => exact ⟨k + 1, by go_num, by omega, all_next HA HX.out HPX.out, hB.trans (hb1.mono hB.size)⟩
        case measure => simp [intOf]; omega
      · go_wp2_with ((with_reducible refine HC.out.mono ?_); rintro e w' ⟨rfl, hb1⟩)
        go_ret
        exact ⟨ret_int (idxF_hit HA.out HX.out HPX.out).symm, hB.trans (hb1.mono hB.size)⟩
    · obtain rfl : k = xs.length := by omega
      go_wp2_with fail
      go_ret
      exact ⟨ret_int (idxF_miss (by simpa using HA.out)).symm, hB⟩
end Go.Proofs.Ytpjobcnfjpbaeaa.A

set_option linter.unusedVariables false
set_option linter.unusedSimpArgs false
namespace Go.Proofs.Ytpjobcnfjpbaeaa.A
open Go.RowKit Go.Proofs.YtpjobcnfjpbaeaaW.PrintWords Go.Proofs.YtpjobcnfjpbaeaaW.PrintLast Go.Proofs.YtpjobcnfjpbaeaaW.PrintMore
open Go.Proofs.Ytpjobcnfjpbaeaa.PA
theorem idxF_range {α : Type} (p : α → Bool) (xs : List α) : -1 ≤ idxF p xs ∧ idxF p xs < xs.length ∧ (decide (0 ≤ idxF p xs) = xs.any p) := by
  unfold idxF
  cases h : xs.findIdx? p with
  | none =>
    rw [List.findIdx?_eq_none_iff] at h
    refine ⟨by simp, by simp only []; omega, ?_⟩
    have : xs.any p = false := by rw [List.any_eq_false]; intro x hx; simpa using h x hx
    rw [this]; rfl
  | some i =>
    rw [List.findIdx?_eq_some_iff_getElem] at h
    obtain ⟨hi, hp, _⟩ := h
    refine ⟨by simp only []; omega, by simp only []; omega, ?_⟩
    have : xs.any p = true := by rw [List.any_eq_true]; exact ⟨_, List.getElem_mem hi, hp⟩
    rw [this]; simp
theorem at_int {w W : World} {A : Option Addr} {n : Nat} {xs : List Int} (h : Kd.C (Kd.int .i64) w A n xs) (hb : Below w.heap.size w W) (k : Nat) (hk : k < xs.length) : ∃ ad x, A = some ad ∧ Hid (xs[k]? = some x) ∧
    W.cell? (ad.add k) = some (.int .i64 x) := by
  have hl := h.1
  obtain ⟨ad, eA, h0⟩ := Kd.at_int h k (by omega) (by omega)
  rw [Int.toNat_natCast] at h0
  refine ⟨ad, rd xs k, eA, ?_, (hb.cell (World.block_lt_of_cell? w _ h0)).trans h0⟩
  show xs[k]? = some (xs.getD (k : Int).toNat 0)
  simp [hk]
abbrev it (x : Int) : Value := .int .i64 x
set_option maxHeartbeats 400000 in
theorem idxInt_c (g : Nat) (caps : Array Value) (p : Int → Bool) (A : Option Addr) (c : Nat) (xs : List Int) (w : World)
    (eg : Enters g) (hp : PredOf g caps it p w) (hr : Kd.C (Kd.int .i64) w A xs.length xs) :
    Calls Try.prog 51 #[.slice A xs.length c, .func (.func g) #[] caps] w fun e w' => e = .returned (.int .i64 (idxF p xs)) ∧ Below w.heap.size w w' := by
  have HR := Lib.hid hr
  have HP := Lib.hid hp
  have hl : xs.length ≤ 9223372036854775807 := hr.2.1
  clear hr hp
  unfold Enters at eg
  go_enter Try.func51, Try.ntmps51
  go_wp2_with fail
  go_loopw [5, 8] (fun _ i wr => ∃ k : Nat, i = .int .i64 k ∧ k ≤ xs.length ∧ Hid ((xs.take k).all (fun x => !p x) = true) ∧ Below w.heap.size w wr) (fun _ i _ => xs.length - (intOf i).toNat)
  case atStart => exact ⟨0, rfl, Nat.zero_le _, rfl, Below.refl _ _⟩
  case round =>
    obtain ⟨k, rfl, hk, HA, hB⟩ := hrel
    by_cases hlt : k < xs.length
    · obtain ⟨ad, x, eA, HX, h0⟩ := at_int HR.out hB k hlt
      cases eA
      have hc := HP.out _ x hB
      obtain ⟨b, hb⟩ : ∃ b, p x = b := ⟨_, rfl⟩
      rw [hb] at hc
      have HPX := Lib.hid hb
      have HC := Lib.hid hc
      clear hb hc
      cases b
      · go_wp2_with ((with_reducible refine HC.out.mono ?_); rintro e w' ⟨rfl, hb1⟩)
        go_roundw
        case rel => exact ⟨k + 1, by go_num, by omega, all_next HA HX.out HPX.out, hB.trans (hb1.mono hB.size)⟩
        case measure => simp [intOf]; omega
      · go_wp2_with ((with_reducible refine HC.out.mono ?_); rintro e w' ⟨rfl, hb1⟩)
        go_ret
        exact ⟨ret_int (idxF_hit HA.out HX.out HPX.out).symm, hB.trans (hb1.mono hB.size)⟩
    · obtain rfl : k = xs.length := by omega
      go_wp2_with fail
      go_ret
      exact ⟨ret_int (idxF_miss (by simpa using HA.out)).symm, hB⟩
theorem ret_bool {a b : Bool} (h : a = b) : Ending.returned (.bool a) = .returned (.bool b) := by rw [h]
set_option maxHeartbeats 400000 in
theorem hasBk_c (g : Nat) (caps : Array Value) (p : S47 → Bool) (A : Option Addr) (c : Nat) (xs : List S47) (w : World)
    (eg : Enters g) (hp : PredOf g caps bk p w) (hr : Kd.C k47 w A xs.length xs) :
    Calls Try.prog 63 #[.slice A xs.length c, .func (.func g) #[] caps] w fun e w' => e = .returned (.bool (xs.any p)) ∧ Below w.heap.size w w' := by
  have HC := Lib.hid (idxBk_c g caps p A c xs w eg hp hr)
  have hi := idxF_range p xs
  obtain ⟨i, hie⟩ : ∃ i, idxF p xs = i := ⟨_, rfl⟩
  rw [hie] at HC hi
  obtain ⟨h1, h2, h3⟩ := hi
  have H3 := Lib.hid h3
  clear hr hp eg h3 hie
  go_enter Try.func63, Try.ntmps63
  go_wp2_with ((with_reducible refine HC.out.mono ?_); rintro e w' ⟨rfl, hb1⟩)
  go_ret
  exact ⟨ret_bool H3.out, hb1⟩
set_option maxHeartbeats 400000 in
theorem hasInt_c (g : Nat) (caps : Array Value) (p : Int → Bool) (A : Option Addr) (c : Nat) (xs : List Int) (w : World)
    (eg : Enters g) (hp : PredOf g caps it p w) (hr : Kd.C (Kd.int .i64) w A xs.length xs) :
    Calls Try.prog 56 #[.slice A xs.length c, .func (.func g) #[] caps] w fun e w' => e = .returned (.bool (xs.any p)) ∧ Below w.heap.size w w' := by
  have HC := Lib.hid (idxInt_c g caps p A c xs w eg hp hr)
  have hi := idxF_range p xs
  obtain ⟨i, hie⟩ : ∃ i, idxF p xs = i := ⟨_, rfl⟩
  rw [hie] at HC hi
  obtain ⟨h1, h2, h3⟩ := hi
  have H3 := Lib.hid h3
  clear hr hp eg h3 hie
  go_enter Try.func56, Try.ntmps56
  go_wp2_with ((with_reducible refine HC.out.mono ?_); rintro e w' ⟨rfl, hb1⟩)
  go_ret
  exact ⟨ret_bool H3.out, hb1⟩
def outB (lo hi n : Int) : Bool := !withinB n lo hi
set_option maxHeartbeats 400000 in
theorem badRoom_c (n : Int) (w : World) : Calls Try.prog 62 #[.int .i64 n] w fun e w' => e = .returned (.bool (outB 0 8 n)) ∧ w = w' := by
  unfold outB
  obtain ⟨b, h⟩ : ∃ b, withinB n 0 8 = b := ⟨_, rfl⟩
  rw [h]
  have H := Lib.hid h
  clear h
  go_enter Try.func62, Try.ntmps62
  go_wp2_with ((with_reducible refine (within_c n 0 8 _).mono ?_); rintro e w' ⟨rfl, rfl⟩; rw [H.out])
  go_ret
  exact ⟨rfl, rfl⟩
theorem enters_mk {f : FuncId} {fn : Func} {c : Code} (hf : Try.prog.funcs[f]? = some fn) (hname : (fn.name == "runtime.NumGoroutine") = false) (hb : fn.body = some c) : Enters f := by
  have h1 : fn.name ≠ "runtime.NumGoroutine" := by simpa using hname
  intro args w
  simp [callFunc, hf, h1, hb, mark]
theorem enters62 : Enters 62 := enters_mk Try.func62 (by kernel_rfl) rfl
theorem enters64 : Enters 64 := enters_mk Try.func64 (by kernel_rfl) rfl
theorem enters68 : Enters 68 := enters_mk Try.func68 (by kernel_rfl) rfl
theorem pred62 (w : World) : PredOf 62 #[] it (outB 0 8) w := fun W x _ => (badRoom_c x W).mono fun e w' ⟨h1, h2⟩ => ⟨h1, h2 ▸ Below.refl _ _⟩
theorem pred68 (w : World) : PredOf 68 #[] bk (fun x => badB x.f0 x.f1 x.f2) w := fun W x _ => badB_c x.f0 x.f1 x.f2 W
set_option maxHeartbeats 400000 in
theorem long_c (b : Nat) (A : Option Addr) (n c : Nat) (x : S47) (w : World) (hn : n ≤ 9223372036854775807) (hb : b < w.heap.size) (hc : w.cell? ⟨b, 0, none⟩ = some (.slice A n c)) :
    Calls Try.prog 64 #[bk x, .pointer (some ⟨b, 0, none⟩)] w fun e w' => e = .returned (.bool (decide ((n : Int) < x.f1))) ∧ Below w.heap.size w w' := by
  obtain ⟨f, t, p⟩ := x
  have hc' : (w.alloc (Obj.cells #[Value.int IntKind.i64 f, Value.int IntKind.i64 t, Value.int IntKind.i64 p] 47)).cell? ⟨b, 0, none⟩ = some (.slice A n c) := by
    rw [← hc]; exact ((Below.refl w.heap.size w).alloc (Nat.le_refl _) _).cell hb
  clear hc
  have hB := (Below.refl w.heap.size w).alloc (Nat.le_refl _) (Obj.cells #[Value.int IntKind.i64 f, Value.int IntKind.i64 t, Value.int IntKind.i64 p] 47)
  go_enter Try.func64, Try.ntmps64
  go_wp2_with fail
  go_ret
  exact ⟨rfl, hB⟩
end Go.Proofs.Ytpjobcnfjpbaeaa.A

set_option linter.unusedVariables false
set_option linter.unusedSimpArgs false
namespace Go.Proofs.Ytpjobcnfjpbaeaa.A
open Go.RowKit Go.Proofs.YtpjobcnfjpbaeaaW.PrintWords Go.Proofs.YtpjobcnfjpbaeaaW.PrintLast Go.Proofs.YtpjobcnfjpbaeaaW.PrintMore
open Go.Proofs.Ytpjobcnfjpbaeaa.PA
def bad1 (x : S47) : Bool := badB x.f0 x.f1 x.f2
def areB (l : List S47) : Bool := decide (l.length ≤ 40) && !l.any bad1
set_option maxHeartbeats 400000 in
theorem areB_c (A : Option Addr) (c : Nat) (l : List S47) (w : World) (hr : Kd.C k47 w A l.length l) :
    Calls Try.prog 47 #[.slice A l.length c] w fun e w' => e = .returned (.bool (areB l)) ∧ Below w.heap.size w w' := by
  unfold areB
  have HC := Lib.hid (hasBk_c 68 #[] bad1 A c l w enters68 (pred68 w) hr)
  have hl : l.length ≤ 9223372036854775807 := hr.2.1
  clear hr
  obtain ⟨b, hb⟩ : ∃ b, l.any bad1 = b := ⟨_, rfl⟩
  rw [hb] at HC
  rw [hb]
  clear hb
  by_cases h : l.length ≤ 40
  · have h1 : decide (l.length ≤ 40) = true := decide_eq_true h
    go_enter Try.func47, Try.ntmps47
    go_wp2_with ((with_reducible refine HC.out.mono ?_); rintro e w' ⟨rfl, hb1⟩)
    go_ret
    exact ⟨ret_bool (by simp [h1]), hb1⟩
  · have h1 : decide (l.length ≤ 40) = false := decide_eq_false h
    go_enter Try.func47, Try.ntmps47
    go_wp2_with ((with_reducible refine HC.out.mono ?_); rintro e w' ⟨rfl, hb1⟩)
    go_ret
    exact ⟨ret_bool (by simp [h1]), Below.refl _ _⟩
def checkB (l : List S47) (rooms : List Int) : Bool :=
  areB l && withinB rooms.length 1 60 && !(rooms.any (outB 0 8) || l.any (fun x => decide ((rooms.length : Int) < x.f1)))
def okE (b : Bool) (e : Int) : Int := if b then 0 else e
theorem okE_t (e : Int) : okE true e = 0 := rfl
theorem okE_f (e : Int) : okE false e = e := rfl
set_option maxHeartbeats 1600000 in
theorem check_c (A : Option Addr) (c : Nat) (l : List S47) (A1 : Option Addr) (c1 : Nat) (rooms : List Int) (w : World) (hr : Kd.C k47 w A l.length l) (hr1 : Kd.C (Kd.int .i64) w A1 rooms.length rooms) :
    Calls Try.prog 41 #[.slice A l.length c, .slice A1 rooms.length c1] w fun e w' => e = .returned (.int .i64 (okE (checkB l rooms) 2)) ∧ Below w.heap.size w w' := by
  have hl : l.length ≤ 9223372036854775807 := hr.2.1
  have hl1 : rooms.length ≤ 9223372036854775807 := hr1.2.1
  have hB0 := (Below.refl w.heap.size w).alloc (Nat.le_refl _) (Obj.cells #[Value.slice A1 rooms.length c1] 23)
  have hcell : (w.alloc (Obj.cells #[Value.slice A1 rooms.length c1] 23)).cell? ⟨w.heap.size, 0, none⟩ = some (.slice A1 rooms.length c1) := by simp [go_sem]
  have hz0 : (w.alloc (Obj.cells #[Value.slice A1 rooms.length c1] 23)).heap.size = w.heap.size + 1 := by simp
  obtain ⟨w0, hw0⟩ : ∃ w0, w.alloc (Obj.cells #[Value.slice A1 rooms.length c1] 23) = w0 := ⟨_, rfl⟩
  rw [hw0] at hB0 hcell hz0
  have HW0 := Lib.hid hw0
  have hR0 := hr.imp_ hB0 (fun _ _ h => k47.K_below hB0 h)
  have hR1 := hr1.imp_ hB0 (fun _ _ h => (Kd.int .i64).K_below hB0 h)
  have HP : ∀ W, Below w0.heap.size w0 W → PredOf 64 #[.pointer (some ⟨w.heap.size, 0, none⟩)] bk (fun x => decide ((rooms.length : Int) < x.f1)) W := by
    intro W hW W' x hW'
    have hs : w.heap.size < W.heap.size := by have := hW.size; omega
    have hs' : w.heap.size < W'.heap.size := by have := hW'.size; omega
    refine long_c w.heap.size A1 rooms.length c1 x W' hl1 hs' ?_
    rw [hW'.cell hs, hW.cell (p := ⟨w.heap.size, 0, none⟩) (by show w.heap.size < _; omega), hcell]
  have H47 := Lib.hid (areB_c A c l w0 hR0)
  have H56 := fun W (hW : Below w0.heap.size w0 W) => Lib.hid (hasInt_c 62 #[] (outB 0 8) A1 c1 rooms W enters62 (pred62 W) (Kd.C_below hR1 hW))
  have H63 := fun W (hW : Below w0.heap.size w0 W) => Lib.hid (hasBk_c 64 #[.pointer (some ⟨w.heap.size, 0, none⟩)] _ A c l W enters64 (HP W hW) (Kd.C_below hR0 hW))
  unfold checkB
  obtain ⟨b1, e1⟩ : ∃ b, areB l = b := ⟨_, rfl⟩
  obtain ⟨b2, e2⟩ : ∃ b, withinB rooms.length 1 60 = b := ⟨_, rfl⟩
  obtain ⟨b3, e3⟩ : ∃ b, rooms.any (outB 0 8) = b := ⟨_, rfl⟩
  obtain ⟨b4, e4⟩ : ∃ b, l.any (fun x => decide ((rooms.length : Int) < x.f1)) = b := ⟨_, rfl⟩
  rw [e1] at H47
  have E2 := Lib.hid e2
  have E3 := Lib.hid e3
  have E4 := Lib.hid e4
  rw [e1, e2, e3, e4]
  clear e1 e2 e3 e4 hr hr1 HP hR0 hR1 hcell hw0
  have fin : ∀ {W : World}, Below w0.heap.size w0 W → Below w.heap.size w W := fun h => hB0.trans (h.mono hB0.size)
  have HC : Hid (w0.cell? ⟨w.heap.size, 0, none⟩ = some (.slice A1 rooms.length c1)) := by
    rw [← HW0.out]; show _ = _; simp [go_sem]
  have cellAt : ∀ {W : World}, Below w0.heap.size w0 W → W.cell? ⟨w.heap.size, 0, none⟩ = some (.slice A1 rooms.length c1) := fun h => (h.cell (p := ⟨w.heap.size, 0, none⟩) (by show w.heap.size < _; omega)).trans HC.out
  cases b1
  · go_enter Try.func41, Try.ntmps41
    go_wp2_with (rw [HW0.out]; (with_reducible refine H47.out.mono ?_); rintro e w' ⟨rfl, hb1⟩)
    go_ret
    exact ⟨rfl, fin hb1⟩
  · cases b2
    · go_enter Try.func41, Try.ntmps41
      go_wp2_with (first
        | (go_at_call 47; rw [HW0.out]; (with_reducible refine H47.out.mono ?_); rintro e w' ⟨rfl, hb1⟩; have hc1 := cellAt hb1)
        | (go_at_call 42; (with_reducible refine (within_c rooms.length 1 60 _).mono ?_); rintro e w' ⟨rfl, rfl⟩; rw [E2.out]))
      go_ret
      exact ⟨rfl, fin hb1⟩
    · cases b3
      · go_enter Try.func41, Try.ntmps41
        go_wp2_with (first
          | (go_at_call 47; rw [HW0.out]; (with_reducible refine H47.out.mono ?_); rintro e w' ⟨rfl, hb1⟩; have hc1 := cellAt hb1)
          | (go_at_call 42; (with_reducible refine (within_c rooms.length 1 60 _).mono ?_); rintro e w' ⟨rfl, rfl⟩; rw [E2.out])
          | (go_at_call 56; (with_reducible refine (H56 _ hb1).out.mono ?_); rintro e w2 ⟨rfl, hb2⟩; rw [E3.out]; have hb3 := hb1.trans (hb2.mono hb1.size); have hc2 := cellAt hb3)
          | (go_at_call 63; (with_reducible refine (H63 _ hb3).out.mono ?_); rintro e w3 ⟨rfl, hb4⟩; rw [E4.out]; cases b4))
        all_goals
          go_ret
          exact ⟨rfl, fin (hb3.trans (hb4.mono hb3.size))⟩
      · go_enter Try.func41, Try.ntmps41
        go_wp2_with (first
          | (go_at_call 47; rw [HW0.out]; (with_reducible refine H47.out.mono ?_); rintro e w' ⟨rfl, hb1⟩; have hc1 := cellAt hb1)
          | (go_at_call 42; (with_reducible refine (within_c rooms.length 1 60 _).mono ?_); rintro e w' ⟨rfl, rfl⟩; rw [E2.out])
          | (go_at_call 56; (with_reducible refine (H56 _ hb1).out.mono ?_); rintro e w2 ⟨rfl, hb2⟩; rw [E3.out]; have hb3 := hb1.trans (hb2.mono hb1.size); have hc2 := cellAt hb3))
        go_ret
        exact ⟨rfl, fin hb3⟩
end Go.Proofs.Ytpjobcnfjpbaeaa.A

set_option linter.unusedVariables false
set_option linter.unusedSimpArgs false
namespace Go.Proofs.Ytpjobcnfjpbaeaa.R
open Go Go.RowKit
section
variable {P : Program} {ops : Array Oper} {Q : Exit → Act → World → Prop} {md : Region.Mode} {S : World → Prop} {T : Array Bool → World → Prop}
def YieldsS (P : Program) (ops : Array Oper) (S : World → Prop) (o : Oper) (v : Value) (a : Act) : Prop := ∀ w, S w → YieldsAt P ops w o v a
theorem YieldsS.of_same {o : Oper} {v : Value} {a a' : Act} (hy : YieldsS P ops S o v a) (he : execOp a'.eval o = execOp a.eval o)
    (hw : Region.wanted o (yielded ops a'.tmps) = Region.wanted o (yielded ops a.tmps)) : YieldsS P ops S o v a' := fun w hS => (hy w hS).of_same he hw
theorem YieldsS.wpOp {i : Nat} {o : Oper} {v : Value} {a : Act} (hi : ops[i]? = some o) (hy : YieldsS P ops S o v a)
    {K : Act → World → Prop} {w : World} (hS : S w) (h : K (a.put o.dst v) w) : wpOp P ops Q i K a w :=
  wpOp_of_stOp (K := fun a' => K a' w) (fun _ h => h) ((hy w hS).stOp hi h)
theorem wpOp_putS {j : Nat} {oi oj : Oper} {v : Value} (hj : ops[j]? = some oj) (hap : oi.apart ops oj = true)
    (hsi : ∀ cs b, oi.op ≠ .select cs b) (hsj : ∀ cs b, oj.op ≠ .select cs b)
    (hQ : ∀ c a w, Q (.panic c) (a.put oi.dst v) w → Q (.panic c) a w) {K : Act → World → Prop} {a : Act} {w : World}
    (hy : YieldsS P ops S oi v a) (h : wpOp P ops Q j K (a.put oi.dst v) w) :
    wpOp P ops Q j (fun a' w' => YieldsS P ops S oi v a' ∧ K (a'.put oi.dst v) w') a w := by
  obtain ⟨h1, h2, h3⟩ := Oper.apart_spec hap
  have keep : ∀ (a : Act), YieldsS P ops S oi v a → ∀ u, YieldsS P ops S oi v (a.put oj.dst u) := fun a hy u =>
    hy.of_same (execOp_put oi hsi a oj.dst u h3) (wanted_put oi a oj.dst u h3)
  have keepD : ∀ d, YieldsS P ops S oi v { a with defers := d :: a.defers } := fun d => hy.of_same rfl rfl
  unfold wpOp at *
  simp only [hj] at *
  rw [wanted_put oj a oi.dst v h1] at h
  split
  · rename_i hw
    simp only [hw, if_true] at h
    rcases h with h | ⟨hasks, hlets⟩
    case inr => exact .inr ⟨by unfold Oper.asks at *; rw [execOp_put oj hsj a oi.dst v h1] at hasks; exact hasks, hlets⟩
    refine .inl ?_
    unfold Oper.wp at *
    rw [execOp_put oj hsj a oi.dst v h1] at h
    generalize (execOp a.eval oj).run P w = r at *
    cases r with
    | ok n w' =>
      cases n <;> simp only [Oper.upon] at h ⊢
      case value u => exact ⟨keep a hy u, by rw [← Act.put_comm a v u h2]; exact h⟩
      case skip => exact ⟨keep a hy _, by rw [← Act.put_comm a v undef h2]; exact h⟩
      case defer d =>
        refine ⟨keep _ (keepD d) _, ?_⟩
        rw [← Act.put_comm _ v undef h2, ← Act.put_defers]
        exact h
      case enter f args =>
        refine Calls.mono h fun e w'' he => ?_
        cases e with
        | returned u => exact ⟨keep a hy u, by rw [← Act.put_comm a v u h2]; exact he⟩
        | panicked c => exact hQ _ _ _ he
        | outgrown => exact he
      case row row args => exact Rows.mono h fun u w'' he => ⟨keep a hy u, by rw [← Act.put_comm a v u h2]; exact he⟩
    | halt x w' =>
      cases x <;> simp only [Oper.upon] at h ⊢
      case panic u => exact hQ _ _ _ h
  · rename_i hw
    simp only [hw] at h
    exact ⟨keep a hy _, by rw [← Act.put_comm a v undef h2]; exact h⟩
def wpAnyT (P : Program) (md : Region.Mode) (ops : Array Oper) (Q : Exit → Act → World → Prop) (T : Array Bool → World → Prop) : Nat → Array Bool → Act → World → Prop
  | 0, listed, a, w => Region.ready md ops listed = [] ∧ Q .normal a w
  | fuel + 1, listed, a, w =>
    (Region.ready md ops listed = [] → Q .normal a w) ∧
    ∀ i ∈ Region.ready md ops listed, wpOp P ops Q i (fun a' w' => T (listed.setIfInBounds i true) w' ∧ wpAnyT P md ops Q T fuel (listed.setIfInBounds i true) a' w') a w
theorem wpAny_of_T : ∀ (fuel : Nat) (listed : Array Bool) (a : Act) (w : World), wpAnyT P md ops Q T fuel listed a w → wpAny P md ops Q fuel listed a w
  | 0, _, _, _, h => h
  | fuel + 1, _, _, _, h => ⟨h.1, fun i hi => wpOp_mono (fun a' w' h' => wpAny_of_T fuel _ a' w' h'.2) (h.2 i hi)⟩
theorem wpAnyT_first {i : Nat} {oi : Oper} {v : Value} {J : Array Bool → Prop} (hi : ops[i]? = some oi) (hsel : ∀ (j : Nat) (o : Oper) cs b, ops[j]? = some o → o.op ≠ .select cs b)
    (hQ : ∀ c a w, Q (.panic c) (a.put oi.dst v) w → Q (.panic c) a w)
    (hT : ∀ l w, T (l.setIfInBounds i true) w ↔ T l w) (hY : ∀ l w, J l → T l w → S w) (hJ : ∀ l j, J l → i ∈ Region.ready md ops l → j ∈ Region.ready md ops l → j ≠ i → J (l.setIfInBounds j true)) :
    ∀ (fuel : Nat) (listed : Array Bool) (a : Act) (w : World),
      (∀ j oj, ops[j]? = some oj → j ≠ i → listed.getD j true = false → (∀ e ∈ oj.after, Region.binds md e = true → e.on ≠ i) → oi.apart ops oj = true) →
      i ∈ Region.ready md ops listed → YieldsS P ops S oi v a → T listed w → J listed →
      wpAnyT P md ops Q T fuel (listed.setIfInBounds i true) (a.put oi.dst v) w → wpAnyT P md ops Q T (fuel + 1) listed a w := by
  intro fuel
  induction fuel with
  | zero =>
    intro listed a w _ hr hy hTl hl H
    refine ⟨fun h => (by rw [h] at hr; cases hr), fun j hj => ?_⟩
    by_cases hji : j = i
    · subst hji; exact hy.wpOp hi (hY _ _ hl hTl) ⟨(hT _ _).2 hTl, H⟩
    · have := ready_mono hj hji
      rw [H.1] at this
      cases this
  | succ fuel ih =>
    intro listed a w hfree hr hy hTl hl H
    refine ⟨fun h => (by rw [h] at hr; cases hr), fun j hj => ?_⟩
    by_cases hji : j = i
    · subst hji; exact hy.wpOp hi (hY _ _ hl hTl) ⟨(hT _ _).2 hTl, H⟩
    · have h1 := H.2 j (ready_mono hj hji)
      obtain ⟨hjun, oj, hoj, hall⟩ := mem_ready.1 hj
      have hnot : ∀ e ∈ oj.after, Region.binds md e = true → e.on ≠ i := fun e he hb heq => by
        have h1 := hall e he hb
        rw [heq, getD_both (mem_ready.1 hr).1] at h1
        cases h1
      have h2 := wpOp_putS hoj (hfree j oj hoj hji hjun hnot) (fun cs b => hsel i oi cs b hi) (fun cs b => hsel j oj cs b hoj) hQ hy h1
      have hfree' : ∀ k ok, ops[k]? = some ok → k ≠ i → (listed.setIfInBounds j true).getD k true = false →
          (∀ e ∈ ok.after, Region.binds md e = true → e.on ≠ i) → oi.apart ops ok = true := fun k ok hk hki hun hno => by
        refine hfree k ok hk hki ?_ hno
        by_cases hjk : j = k
        · subst hjk; exact hjun
        · rw [getD_set_ne true hjk] at hun; exact hun
      refine wpOp_mono (fun a' w' h3 => ?_) h2
      obtain ⟨hy', hT', h4⟩ := h3
      rw [Array.setIfInBounds_comm _ _ (Ne.symm hji)] at hT' h4
      have hT'' := (hT _ _).1 hT'
      exact ⟨hT'', ih (listed.setIfInBounds j true) a' w' hfree' (ready_mono hr (Ne.symm hji)) hy' hT'' (hJ _ _ hl hr hj hji) h4⟩
def Till (S S1 : World → Prop) (m0 m1 : Nat) (listed : Array Bool) (w : World) : Prop := (listed.getD m0 false = false → S w) ∧ (listed.getD m1 false = false → S1 w)
def seqC (md : Region.Mode) (ops : Array Oper) : List Nat → Array Bool → Bool
  | [], listed => (Region.ready md ops listed).isEmpty
  | c :: C, listed => decide (Region.ready md ops listed = [c]) && seqC md ops C (listed.setIfInBounds c true)
def waitsC (md : Region.Mode) (ops : Array Oper) (m i : Nat) : Bool := decide (ops.size ≤ m) || Region.waitsFor md ops m i
def floatC1 (md : Region.Mode) (ops : Array Oper) (m1 : Nat) (C : List Nat) : List Nat → Array Bool → Bool
  | [], listed => seqC md ops C listed
  | i :: F, listed => (Region.ready md ops listed).contains i && Region.free md ops listed i && waitsC md ops m1 i && !listed.getD m1 false && floatC1 md ops m1 C F (listed.setIfInBounds i true)
def floatC (md : Region.Mode) (ops : Array Oper) (m0 m1 : Nat) (F1 C : List Nat) : List Nat → Array Bool → Bool
  | [], listed => floatC1 md ops m1 C F1 listed
  | i :: F, listed => (Region.ready md ops listed).contains i && Region.free md ops listed i && waitsC md ops m0 i && waitsC md ops m1 i && !listed.getD m0 false && !listed.getD m1 false && floatC md ops m0 m1 F1 C F (listed.setIfInBounds i true)
def dstC (n : Nat) : List Oper → Bool
  | [] => true
  | o :: l => (match o.dst with | some d => decide (d < n) && l.all (fun o' => o'.dst != some d) | none => false) && dstC n l
def pickC (ops : Array Oper) (F : List Nat) : List Oper := F.filterMap (ops[·]?)
def wpSeq (P : Program) (ops : Array Oper) (Q : Exit → Act → World → Prop) (S S1 : World → Prop) : List (Oper × Bool × Bool) → Act → World → Prop
  | [], a, w => Q .normal a w
  | (o, s, s1) :: rest, a, w => if Region.wanted o (yielded ops a.tmps) then o.wp P a w (fun a' w' => ((s = true → S w') ∧ (s1 = true → S1 w')) ∧ wpSeq P ops Q S S1 rest a' w') Q ∨ (o.asks P a w ∧ LetsOut Q)
      else ((s = true → S w) ∧ (s1 = true → S1 w)) ∧ wpSeq P ops Q S S1 rest (a.put o.dst undef) w
section
variable {S1 : World → Prop}
theorem wpSeq_nil {a : Act} {w : World} (h : Q .normal a w) : wpSeq P ops Q S S1 [] a w := h
theorem wpSeq_step {o : Oper} {s s1 : Bool} {rest : List (Oper × Bool × Bool)} {a : Act} {w : World}
    (h : ∀ K : Act → World → Prop, (∀ a' w', ((s = true → S w') ∧ (s1 = true → S1 w')) → wpSeq P ops Q S S1 rest a' w' → K a' w') → if Region.wanted o (yielded ops a.tmps) then o.wp P a w K Q else K (a.put o.dst undef) w) : wpSeq P ops Q S S1 ((o, s, s1) :: rest) a w := by
  have := h (fun a' w' => ((s = true → S w') ∧ (s1 = true → S1 w')) ∧ wpSeq P ops Q S S1 rest a' w') (fun a' w' hS h => ⟨hS, h⟩)
  unfold wpSeq
  split
  · rename_i hw; rw [if_pos hw] at this; exact .inl this
  · rename_i hw; rw [if_neg hw] at this; exact this
theorem wpSeq_same {o : Oper} {rest : List (Oper × Bool × Bool)} {a : Act} {w : World}
    (h : ∀ K : Act → World → Prop, (∀ a' w', S w' → wpSeq P ops Q S S rest a' w' → K a' w') → if Region.wanted o (yielded ops a.tmps) then o.wp P a w K Q else K (a.put o.dst undef) w) : wpSeq P ops Q S S ((o, true, true) :: rest) a w :=
  wpSeq_step fun K hK => h K fun a' w' h1 => hK a' w' ⟨fun _ => h1, fun _ => h1⟩
theorem wpSeq_one {o : Oper} {rest : List (Oper × Bool × Bool)} {a : Act} {w : World}
    (h : ∀ K : Act → World → Prop, (∀ a' w', S1 w' → wpSeq P ops Q S S1 rest a' w' → K a' w') → if Region.wanted o (yielded ops a.tmps) then o.wp P a w K Q else K (a.put o.dst undef) w) : wpSeq P ops Q S S1 ((o, false, true) :: rest) a w :=
  wpSeq_step fun K hK => h K fun a' w' h1 => hK a' w' ⟨(fun h => by cases h), fun _ => h1⟩
theorem wpSeq_tail : ∀ (l : List (Oper × Bool × Bool)) {a : Act} {w : World}, l.all (fun p => !p.2.1 && !p.2.2) = true → wpList P ops Q (l.map (·.1)) a w → wpSeq P ops Q S S1 l a w
  | [], _, _, _, h => h
  | (o, s, s1) :: rest, a, w, hl, h => by
    simp only [List.all_cons, Bool.and_eq_true, Bool.not_eq_true'] at hl
    obtain ⟨⟨rfl, rfl⟩, hl⟩ := hl
    simp only [List.map_cons, wpList] at h
    unfold wpSeq
    split
    · rename_i hw
      rw [if_pos hw] at h
      rcases h with h | h
      · exact .inl (Oper.wp_mono (fun a' w' h' => ⟨⟨(fun h => by cases h), (fun h => by cases h)⟩, wpSeq_tail rest (by simpa using hl) h'⟩) h)
      · exact .inr h
    · rename_i hw
      rw [if_neg hw] at h
      exact ⟨⟨(fun h => by cases h), (fun h => by cases h)⟩, wpSeq_tail rest (by simpa using hl) h⟩
end
def chainOf (ops : Array Oper) (m0 m1 : Nat) : List Nat → Bool → Bool → List (Oper × Bool × Bool)
  | [], _, _ => []
  | c :: C, s, s1 => match ops[c]? with | some o => (o, s && c != m0, s1 && c != m1) :: chainOf ops m0 m1 C (s && c != m0) (s1 && c != m1) | none => []
theorem wpAnyT_seq {S1 : World → Prop} {m0 m1 : Nat} : ∀ (C : List Nat) (listed : Array Bool) (s s1 : Bool) (a : Act) (w : World), (s = false → listed.getD m0 false = true) → (s1 = false → listed.getD m1 false = true) → seqC md ops C listed = true → (∀ c ∈ C, c < ops.size) →
    listed.size = ops.size → wpSeq P ops Q S S1 (chainOf ops m0 m1 C s s1) a w → wpAnyT P md ops Q (Till S S1 m0 m1) C.length listed a w
  | [], listed, s, s1, a, w, _, _, hB, _, _, h => ⟨by simpa [seqC] using hB, h⟩
  | c :: C, listed, s, s1, a, w, hs, hs1, hB, hlt, hsz, h => by
    have hc := hlt c (List.mem_cons_self)
    have h0 : ops[c]? = some ops[c] := Array.getElem?_eq_getElem hc
    simp only [seqC, Bool.and_eq_true, decide_eq_true_eq] at hB
    simp only [chainOf, h0, wpSeq] at h
    refine ⟨fun h1 => (by rw [hB.1] at h1; cases h1), fun i hi => ?_⟩
    rw [hB.1] at hi
    have hik : i = c := by simpa using hi
    subst hik
    have set' : ∀ (s : Bool) (m : Nat), (s = false → listed.getD m false = true) → (s && i != m) = false → (listed.setIfInBounds i true).getD m false = true := by
      intro s m hs h2
      by_cases hm : i = m
      · subst hm; simp [hsz, hc]
      · have : s = false := by simpa [hm] using h2
        exact getD_set_true (hs this)
    have step : ∀ a' w', (((s && i != m0) = true → S w') ∧ ((s1 && i != m1) = true → S1 w')) ∧ wpSeq P ops Q S S1 (chainOf ops m0 m1 C (s && i != m0) (s1 && i != m1)) a' w' →
        Till S S1 m0 m1 (listed.setIfInBounds i true) w' ∧ wpAnyT P md ops Q (Till S S1 m0 m1) C.length (listed.setIfInBounds i true) a' w' := by
      intro a' w' ⟨⟨h1, h1'⟩, h2⟩
      refine ⟨⟨fun h3 => h1 ?_, fun h3 => h1' ?_⟩, wpAnyT_seq C _ _ _ a' w' (set' s m0 hs) (set' s1 m1 hs1) hB.2 (fun c hc => hlt c (List.mem_cons_of_mem _ hc)) (by simp [hsz]) h2⟩
      · cases h4 : (s && i != m0) with
        | true => rfl
        | false => rw [set' s m0 hs h4] at h3; cases h3
      · cases h4 : (s1 && i != m1) with
        | true => rfl
        | false => rw [set' s1 m1 hs1 h4] at h3; cases h3
    refine wpOp_mono step ?_
    unfold wpOp
    simp only [h0]
    split
    · rename_i hw; rw [if_pos hw] at h; exact h
    · rename_i hw; rw [if_neg hw] at h; exact h
theorem put_size (a : Act) (d : Option Tmp) (v : Value) : (a.put d v).tmps.size = a.tmps.size := by cases d <;> simp [Act.put]
theorem still_keeps {A : Act} {w : World} : ∀ (l : List Oper) (a : Act), wpStill P ops w (fun a' => a' = A) l a → ∀ d, (∀ o ∈ l, o.dst ≠ some d) → A.tmps[d]? = a.tmps[d]? := by
  intro l
  induction l with
  | nil => intro a h d _; rw [show a = A from h]
  | cons o l ih =>
    intro a h d hd
    have hput : ∀ v, (a.put o.dst v).tmps[d]? = a.tmps[d]? := by
      intro v
      cases hdo : o.dst with
      | none => rfl
      | some e =>
        have : e ≠ d := fun h => hd o List.mem_cons_self (by rw [hdo, h])
        simp [Act.put, Array.getElem?_setIfInBounds_ne this]
    have hnext : ∀ v, wpStill P ops w (fun a' => a' = A) l (a.put o.dst v) → A.tmps[d]? = a.tmps[d]? := fun v h2 => (ih _ h2 d (fun o ho => hd o (List.mem_cons_of_mem _ ho))).trans (hput v)
    simp only [wpStill] at h
    split at h
    · unfold Oper.still at h
      generalize (execOp a.eval o).run P w = r at h
      cases r with
      | ok n w' =>
        cases n <;> simp only [Oper.stillUpon] at h
        case value u => exact hnext u h.2
        case skip => exact hnext _ h.2
        case enter f args => obtain ⟨_, v, _, h2⟩ := h; exact hnext v h2
      | halt x w' => simp only [Oper.stillUpon] at h
    · exact hnext _ h
theorem yields_all {S : World → Prop} {A : Act} {w0 : World} (hS : S w0) {i : Nat} {o : Oper} {d : Tmp} {rest : List Oper} {a : Act} (h0 : ops[i]? = some o) (hdo : o.dst = some d) (hdlt : d < a.tmps.size) (hdn : ∀ o' ∈ rest, o'.dst ≠ some d)
    (hst : ∀ w', S w' → wpStill P ops w' (fun a' => a' = A) (o :: rest) a) : ∃ v, YieldsS P ops S o v a ∧ ∀ w', S w' → wpStill P ops w' (fun a' => a' = A) rest (a.put o.dst v) := by
  have hy : ∀ w', S w' → ∃ v, YieldsAt P ops w' o v a ∧ wpStill P ops w' (fun a' => a' = A) rest (a.put o.dst v) := fun w' hw' => by
    have h1 : stOp P ops w' i (wpStill P ops w' (fun a' => a' = A) rest) a := by unfold stOp; simp only [h0]; exact hst w' hw'
    exact yieldsAt_of_stOp h0 h1
  have hv : ∀ w' v, wpStill P ops w' (fun a' => a' = A) rest (a.put o.dst v) → A.tmps[d]? = some v := fun w' v h => by
    rw [still_keeps _ _ h d hdn, hdo]
    simp [Act.put, hdlt]
  obtain ⟨v, hyv, hnv⟩ := hy w0 hS
  have hA := hv w0 v hnv
  have hall : ∀ w', S w' → YieldsAt P ops w' o v a ∧ wpStill P ops w' (fun a' => a' = A) rest (a.put o.dst v) := fun w' hw' => by
    obtain ⟨v', h1, h2⟩ := hy w' hw'
    have := hv w' v' h2
    rw [hA] at this
    obtain rfl := Option.some.inj this
    exact ⟨h1, h2⟩
  exact ⟨v, fun w' hw' => (hall w' hw').1, fun w' hw' => (hall w' hw').2⟩
theorem waits_ne {m i : Nat} {l : Array Bool} (hw : waitsC md ops m i = true) (hr : i ∈ Region.ready md ops l) {j : Nat} (hj : j ∈ Region.ready md ops l) : j ≠ m := by
  intro e
  subst e
  obtain ⟨hun, o, ho, hall⟩ := mem_ready.1 hj
  simp only [waitsC, Bool.or_eq_true, decide_eq_true_eq] at hw
  rcases hw with hm | hm
  · have := (Array.getElem?_eq_some_iff.1 ho).1; omega
  · obtain ⟨o', ho', e, he, hb, hon⟩ := Region.waitsFor_spec hm
    have : o' = o := Option.some.inj (ho'.symm.trans ho)
    subst this
    have h2 := hall e he hb
    rw [hon, getD_both (mem_ready.1 hr).1] at h2
    cases h2
section
variable {S1 : World → Prop} {m0 m1 : Nat}
theorem wpAnyT_float1 (hsel : Region.noSelect ops = true) (hQ : ∀ c a (d : Tmp) v w, Q (.panic c) (a.put (some d) v) w → Q (.panic c) a w) {C : List Nat} {A : Act} {w0 : World} (hS : S w0) (hS1 : S1 w0) :
    ∀ (F : List Nat) (listed : Array Bool) (a : Act), floatC1 md ops m1 C F listed = true → (∀ c ∈ F, c < ops.size ∧ c ≠ m0) → listed.size = ops.size →
      dstC a.tmps.size (pickC ops F) = true → (∀ w', S1 w' → wpStill P ops w' (fun a' => a' = A) (pickC ops F) a) →
      (∀ listed', listed'.size = ops.size → seqC md ops C listed' = true → wpAnyT P md ops Q (Till S S1 m0 m1) C.length listed' A w0) →
      wpAnyT P md ops Q (Till S S1 m0 m1) (F.length + C.length) listed a w0
  | [], listed, a, hB, _, hsz, _, hst, hC => by
    have : a = A := hst w0 hS1
    subst this
    simpa using hC listed hsz hB
  | i :: F, listed, a, hB, hlt, hsz, hd, hst, hC => by
    obtain ⟨hc, hcm⟩ := hlt i (List.mem_cons_self)
    have h0 : ops[i]? = some ops[i] := Array.getElem?_eq_getElem hc
    have hp : pickC ops (i :: F) = ops[i] :: pickC ops F := by simp [pickC, h0]
    rw [hp] at hd
    simp only [hp] at hst
    simp only [floatC1, Bool.and_eq_true, Bool.not_eq_true'] at hB
    obtain ⟨⟨⟨⟨hr, hf⟩, hm⟩, hl⟩, hB'⟩ := hB
    obtain ⟨o, ho⟩ : ∃ o, ops[i] = o := ⟨_, rfl⟩
    rw [ho] at h0 hd
    simp only [ho] at hst
    have hri : i ∈ Region.ready md ops listed := by simpa using hr
    cases hdo : o.dst with
    | none => simp [dstC, hdo] at hd
    | some d =>
      simp only [dstC, hdo, Bool.and_eq_true, decide_eq_true_eq, List.all_eq_true] at hd
      obtain ⟨⟨hdlt, hdn⟩, hd'⟩ := hd
      obtain ⟨v, hy, hn⟩ := yields_all hS1 h0 hdo hdlt (fun o' ho' => by simpa using hdn o' ho') hst
      have him : i ≠ m1 := waits_ne hm hri hri
      rw [List.length_cons, show F.length + 1 + C.length = (F.length + C.length) + 1 by omega]
      exact wpAnyT_first (J := fun l => l.getD m1 false = false) h0 (Region.noSelect_spec hsel) (fun c a w => by rw [hdo]; exact hQ c a d v w)
        (fun l w => by unfold Till; rw [getD_set_ne false hcm, getD_set_ne false him]) (fun l w hJ hT => hT.2 hJ) (fun l j hJ hr hj _ => by rw [getD_set_ne false (waits_ne hm hr hj)]; exact hJ)
        (F.length + C.length) listed a w0 (Region.free_spec h0 hf) hri hy ⟨fun _ => hS, fun _ => hS1⟩ hl
        (wpAnyT_float1 hsel hQ hS hS1 F _ _ hB' (fun c hc => hlt c (List.mem_cons_of_mem _ hc)) (by simp [hsz]) (by rw [put_size]; exact hd') hn hC)
theorem wpAnyT_float (hsel : Region.noSelect ops = true) (hQ : ∀ c a (d : Tmp) v w, Q (.panic c) (a.put (some d) v) w → Q (.panic c) a w) {F1 C : List Nat} {A1 A : Act} {w0 : World} (hS : S w0) (hS1 : S1 w0)
    (hF1 : ∀ c ∈ F1, c < ops.size ∧ c ≠ m0) (hd1 : dstC A1.tmps.size (pickC ops F1) = true) (hst1 : ∀ w', S1 w' → wpStill P ops w' (fun a' => a' = A) (pickC ops F1) A1) :
    ∀ (F : List Nat) (listed : Array Bool) (a : Act), floatC md ops m0 m1 F1 C F listed = true → (∀ c ∈ F, c < ops.size) → listed.size = ops.size →
      dstC a.tmps.size (pickC ops F) = true → (∀ w', S w' ∧ S1 w' → wpStill P ops w' (fun a' => a' = A1) (pickC ops F) a) →
      (∀ listed', listed'.size = ops.size → seqC md ops C listed' = true → wpAnyT P md ops Q (Till S S1 m0 m1) C.length listed' A w0) →
      wpAnyT P md ops Q (Till S S1 m0 m1) (F.length + (F1.length + C.length)) listed a w0
  | [], listed, a, hB, _, hsz, _, hst, hC => by
    have : a = A1 := hst w0 ⟨hS, hS1⟩
    subst this
    simp only [List.length_nil, Nat.zero_add]
    exact wpAnyT_float1 hsel hQ hS hS1 F1 listed a hB hF1 hsz hd1 hst1 hC
  | i :: F, listed, a, hB, hlt, hsz, hd, hst, hC => by
    have hc := hlt i (List.mem_cons_self)
    have h0 : ops[i]? = some ops[i] := Array.getElem?_eq_getElem hc
    have hp : pickC ops (i :: F) = ops[i] :: pickC ops F := by simp [pickC, h0]
    rw [hp] at hd
    simp only [hp] at hst
    simp only [floatC, Bool.and_eq_true, Bool.not_eq_true'] at hB
    obtain ⟨⟨⟨⟨⟨⟨hr, hf⟩, hm0⟩, hm⟩, hl0⟩, hl⟩, hB'⟩ := hB
    obtain ⟨o, ho⟩ : ∃ o, ops[i] = o := ⟨_, rfl⟩
    rw [ho] at h0 hd
    simp only [ho] at hst
    have hri : i ∈ Region.ready md ops listed := by simpa using hr
    cases hdo : o.dst with
    | none => simp [dstC, hdo] at hd
    | some d =>
      simp only [dstC, hdo, Bool.and_eq_true, decide_eq_true_eq, List.all_eq_true] at hd
      obtain ⟨⟨hdlt, hdn⟩, hd'⟩ := hd
      obtain ⟨v, hy, hn⟩ := yields_all (S := fun w => S w ∧ S1 w) ⟨hS, hS1⟩ h0 hdo hdlt (fun o' ho' => by simpa using hdn o' ho') hst
      rw [List.length_cons, show F.length + 1 + (F1.length + C.length) = (F.length + (F1.length + C.length)) + 1 by omega]
      exact wpAnyT_first (J := fun l => l.getD m0 false = false ∧ l.getD m1 false = false) h0 (Region.noSelect_spec hsel) (fun c a w => by rw [hdo]; exact hQ c a d v w)
        (fun l w => by unfold Till; rw [getD_set_ne false (waits_ne hm0 hri hri), getD_set_ne false (waits_ne hm hri hri)]) (fun l w hJ hT => ⟨hT.1 hJ.1, hT.2 hJ.2⟩)
        (fun l j hJ hr hj _ => by rw [getD_set_ne false (waits_ne hm0 hr hj), getD_set_ne false (waits_ne hm hr hj)]; exact hJ)
        _ listed a w0 (Region.free_spec h0 hf) hri hy ⟨fun _ => hS, fun _ => hS1⟩ ⟨hl0, hl⟩
        (wpAnyT_float hsel hQ hS hS1 hF1 hd1 hst1 F _ _ hB' (fun c hc => hlt c (List.mem_cons_of_mem _ hc)) (by simp [hsz]) (by rw [put_size]; exact hd') hn hC)
end
def textB (ops : Array Oper) (F F1 C : List Nat) (m0 m1 : Nat) : Bool :=
  Region.noSelect ops && decide (F.length + (F1.length + C.length) = ops.size) && F.all (fun c => decide (c < ops.size)) && F1.all (fun c => decide (c < ops.size) && c != m0) && C.all (fun c => decide (c < ops.size)) && floatC .any ops m0 m1 F1 C F (Array.replicate ops.size false)
theorem wp_region_text2 {id : Nat} {a : Act} {w : World} (F F1 C : List Nat) (m0 m1 : Nat) (S S1 : World → Prop) (A1 A : Act) (hm : P.follows .mixedOrders = true) (hB : textB ops F F1 C m0 m1 = true)
    (hd : dstC a.tmps.size (pickC ops F) = true) (hd1 : dstC A1.tmps.size (pickC ops F1) = true) (hQ : ∀ c a (d : Tmp) v w, Q (.panic c) (a.put (some d) v) w → Q (.panic c) a w) (hS : S w.drew) (hS1 : S1 w.drew)
    (hF : ∀ w', S w' ∧ S1 w' → wpStill P ops w' (fun a' => a' = A1) (pickC ops F) a) (hF1 : ∀ w', S1 w' → wpStill P ops w' (fun a' => a' = A) (pickC ops F1) A1)
    (hC : wpSeq P ops Q S S1 (chainOf ops m0 m1 C true true) A w.drew) : (Code.region id ops true).wp P Q a w := by
  simp only [textB, Bool.and_eq_true, decide_eq_true_eq, List.all_eq_true, bne_iff_ne] at hB
  obtain ⟨⟨⟨⟨⟨hsel, hlen⟩, hFl⟩, hF1l⟩, hCl⟩, hfl⟩ := hB
  refine wp_region_any hm (wpAny_of_T (T := Till S S1 m0 m1) _ _ _ _ ?_)
  rw [← hlen]
  exact wpAnyT_float hsel hQ hS hS1 hF1l hd1 hF1 F _ a (by rw [hlen]; exact hfl) hFl (by simp [hlen]) hd hF
    (fun listed' hsz hseq => wpAnyT_seq C listed' true true A _ (fun h => by cases h) (fun h => by cases h) hseq hCl hsz hC)
theorem wp_region_text {id : Nat} {a : Act} {w : World} (F C : List Nat) (m0 : Nat) (S : World → Prop) (A : Act) (hm : P.follows .mixedOrders = true) (hB : textB ops F [] C m0 m0 = true)
    (hd : dstC a.tmps.size (pickC ops F) = true) (hQ : ∀ c a (d : Tmp) v w, Q (.panic c) (a.put (some d) v) w → Q (.panic c) a w) (hS : S w.drew)
    (hF : ∀ w', S w' → wpStill P ops w' (fun a' => a' = A) (pickC ops F) a)
    (hC : wpSeq P ops Q S S (chainOf ops m0 m0 C true true) A w.drew) : (Code.region id ops true).wp P Q a w :=
  wp_region_text2 F [] C m0 m0 S S A A hm hB hd rfl hQ hS hS (fun w' h => hF w' h.1) (fun _ _ => rfl) hC
end
section
variable {P : Program} {ops : Array Oper} {w : World} {Q : Act → Prop} {o : Oper} {rest : List Oper} {a : Act}
theorem bft : (false == true) = false := rfl
theorem btf : (true == false) = false := rfl
theorem wpStill_no {j : Nat} {want b : Bool} (hg : o.guard = some (j, want)) (hy : yielded ops a.tmps j = some b) (hb : (b == want) = false) (h : wpStill P ops w Q rest (a.put o.dst undef)) : wpStill P ops w Q (o :: rest) a := by
  have : Region.wanted o (yielded ops a.tmps) = false := by simp only [Region.wanted, hg, hy]; exact hb
  unfold wpStill
  rw [this]
  exact h
theorem wpStill_yes {j : Nat} {want : Bool} (hg : o.guard = some (j, want)) (hy : yielded ops a.tmps j = some want) (h : ∀ K : Act → Prop, (∀ a, wpStill P ops w Q rest a → K a) → o.still P a w K) : wpStill P ops w Q (o :: rest) a := by
  have : Region.wanted o (yielded ops a.tmps) = true := by simp [Region.wanted, hg, hy]
  unfold wpStill
  rw [this]
  exact h _ (fun _ h => h)
theorem wpStill_plain (hg : o.guard = none) (h : ∀ K : Act → Prop, (∀ a, wpStill P ops w Q rest a → K a) → o.still P a w K) : wpStill P ops w Q (o :: rest) a := by
  have : Region.wanted o (yielded ops a.tmps) = true := by simp [Region.wanted, hg]
  unfold wpStill
  rw [this]
  exact h _ (fun _ h => h)
end
structure Keeps (X : List Nat) (w w' : World) : Prop where
  os : w'.os = w.os
  tape : w'.tape = w.tape
  output : w'.output = w.output
  size : w.heap.size ≤ w'.heap.size
  block : ∀ k, k < w.heap.size → k ∉ X → w'.heap[k]? = w.heap[k]?
section
variable {X : List Nat} {w w1 w2 : World}
theorem Keeps.refl (X : List Nat) (w : World) : Keeps X w w := ⟨rfl, rfl, rfl, Nat.le_refl _, fun _ _ _ => rfl⟩
theorem Keeps.cell (h : Keeps X w w1) {a : Addr} {v : Value} (hc : w.cell? a = some v) (hx : a.block ∉ X) : w1.cell? a = some v := by
  rw [World.cell?_of_block (w := w) (h.block a.block (World.block_lt_of_cell? w a hc) hx), hc]
theorem Keeps.drew (h : Keeps X w w1) : Keeps X w w1.drew := ⟨h.os, h.tape, h.output, h.size, h.block⟩
theorem Keeps.trans {Y : List Nat} (h : Keeps X w w1) (h2 : Keeps Y w1 w2) (hY : ∀ k, k ∈ Y → k < w.heap.size → k ∈ X) : Keeps X w w2 :=
  ⟨h2.os.trans h.os, h2.tape.trans h.tape, h2.output.trans h.output, Nat.le_trans h.size h2.size, fun k hk hx => by rw [h2.block k (by have := h.size; omega) (fun hy => hx (hY k hy hk))]; exact h.block k hk hx⟩
theorem Keeps.of_below (X : List Nat) (h : Below w.heap.size w w1) : Keeps X w w1 := ⟨h.os, h.tape, h.output, h.size, fun k hk _ => h.block k hk⟩
theorem Keeps.to_below (h : Keeps X w w1) {B : Nat} (hB : B ≤ w.heap.size) (hX : ∀ k, k ∈ X → B ≤ k) : Below B w w1 :=
  ⟨h.os, h.tape, h.output, h.size, fun k hk => h.block k (by omega) (fun hx => by have := hX k hx; omega)⟩
theorem Keeps.mono {Y : List Nat} (h : Keeps X w w1) (hX : ∀ k, k ∈ X → k ∈ Y) : Keeps Y w w1 := ⟨h.os, h.tape, h.output, h.size, fun k hk hx => h.block k hk (fun h' => hx (hX k h'))⟩
theorem Keeps.alloc (h : Keeps X w w1) (o : Obj) : Keeps X w (w1.alloc o) :=
  h.trans (Keeps.of_below X ((Below.refl _ _).alloc (Nat.le_refl _) _)) (fun _ hk _ => hk)
theorem Keeps.below (h : Keeps X w w1) (hb : Below w1.heap.size w1 w2) : Keeps X w w2 := h.trans (Keeps.of_below X hb) (fun _ hk _ => hk)
theorem Keeps.grown (h : Keeps X w w1) {row : Option Nat} (hg : w1.grownBy w2 row) (hr : ∀ k, row = some k → k < w.heap.size → k ∈ X) : Keeps X w w2 :=
  ⟨hg.os.trans h.os, hg.tape.trans h.tape, hg.output.trans h.output, Nat.le_trans h.size hg.size, fun k hk hx => by rw [hg.block k (by have := h.size; omega) (fun e => hx (hr k e.symm hk))]; exact h.block k hk hx⟩
theorem Keeps.setCell (h : Keeps X w w1) {p : Addr} (hp : p.block < w.heap.size → p.block ∈ X) (u : Value) : Keeps X w (w1.setCell p u) := by
  refine ⟨h.os, h.tape, h.output, by rw [show (w1.setCell p u).heap.size = w1.heap.size by simp [World.setCell]]; exact h.size, fun k hk hx => ?_⟩
  have hne : k ≠ p.block := by rintro rfl; exact hx (hp hk)
  rw [Below.heap_setCell _ _ _ _ hne]
  exact h.block k hk hx
theorem Keeps.allocs (h : Keeps X w w1) (hs : w1.heap.size = w.heap.size) (o : Obj) : Keeps X (w.alloc o) (w1.alloc o) := by
  refine ⟨h.os, h.tape, h.output, by simp [hs], fun k hk hx => ?_⟩
  simp at hk
  show (w1.heap.push o)[k]? = (w.heap.push o)[k]?
  rw [Array.getElem?_push, Array.getElem?_push, hs]
  split
  · rfl
  · exact h.block k (by omega) hx
end
end Go.Proofs.Ytpjobcnfjpbaeaa.R

set_option linter.unusedVariables false
set_option linter.unusedSimpArgs false
namespace Go.Proofs.Ytpjobcnfjpbaeaa.A
open Go.RowKit Go.Proofs.YtpjobcnfjpbaeaaW.PrintWords Go.Proofs.YtpjobcnfjpbaeaaW.PrintLast Go.Proofs.YtpjobcnfjpbaeaaW.PrintMore
open Go.Proofs.Ytpjobcnfjpbaeaa.PA
def arcC (a : S106) : List Value := [.int .i64 a.f0, .int .i64 a.f1, .int .i64 a.f2, .int .i64 a.f3]
def arcsC (l : List S106) : List Value := l.flatMap arcC
theorem arcsC_len (l : List S106) : (arcsC l).length = l.length * 4 := by
  induction l with
  | nil => rfl
  | cons a l ih => simp only [arcsC, List.flatMap_cons, List.length_append, List.length_cons] at ih ⊢; rw [ih]; simp [arcC]; omega
def FlowAt (w : World) (base b : Nat) (n : Int) (arcs : List S106) : Prop :=
  base ≤ b ∧ ∃ v, w.heap[b]? = some (.cells #[.int .i64 n, v] 109 (0, 0)) ∧ v.ownBlock ≠ some b ∧ w.ownsRow base 106 4 v arcs.length (arcsC arcs)
def FlowApart (w : World) (b : Nat) (n : Int) (k : Nat) : Prop := k < w.heap.size ∧ k ≠ b ∧ ∀ v, w.heap[b]? = some (.cells #[.int .i64 n, v] 109 (0, 0)) → v.ownBlock ≠ some k
def FlowFrame (w w' : World) (b : Nat) (n : Int) : Prop := ∀ k, FlowApart w b n k → w'.heap[k]? = w.heap[k]? ∧ FlowApart w' b n k
theorem FlowFrame.trans {w w1 w2 : World} {b : Nat} {n : Int} (h : FlowFrame w w1 b n) (h1 : FlowFrame w1 w2 b n) : FlowFrame w w2 b n := fun k hk =>
  let ⟨a, c⟩ := h k hk; let ⟨d, e⟩ := h1 k c; ⟨d.trans a, e⟩
theorem FlowFrame.refl (w : World) (b : Nat) (n : Int) : FlowFrame w w b n := fun _ hk => ⟨rfl, hk⟩
def addF (arcs : List S106) (f t r g back : Int) : List S106 := arcs ++ [⟨f, t, r, g⟩, ⟨t, f, back, IntKind.i64.wrap (-g)⟩]
theorem info106 : (Try.prog.info? 106).map (fun i => (i.zero, i.size, i.bytes)) = some (some (.agg #[.int .i64 0, .int .i64 0, .int .i64 0, .int .i64 0]), 4, 32) := by kernel_rfl
set_option maxRecDepth 100000 in
set_option maxHeartbeats 3200000 in
theorem add_c (base b : Nat) (n : Int) (arcs : List S106) (f t r g back : Int) (w : World) (hF : FlowAt w base b n arcs) (hlen : arcs.length ≤ 100000) :
    Calls Try.prog 91 #[.pointer (some ⟨b, 0, none⟩), .agg #[.int .i64 f, .int .i64 t, .int .i64 r, .int .i64 g], .int .i64 back] w fun e w' =>
      e = .returned (.tuple #[]) ∧ FlowAt w' base b n (addF arcs f t r g back) ∧ Below base w w' ∧ FlowFrame w w' b n := by
  obtain ⟨hb, v, hblk, hne, hown⟩ := hF
  obtain ⟨i0, hi0, hz0, hz1, hz2⟩ := info_parts info106
  have hbs : b < w.heap.size := by
    rcases Nat.lt_or_ge b w.heap.size with h | h
    · exact h
    · rw [Array.getElem?_eq_none h] at hblk; cases hblk
  have hc1 : w.cell? ⟨b, 1, none⟩ = some v := by simp [World.cell?, hblk]
  have hz : ∀ o, (w.alloc o).heap.size = w.heap.size + 1 := fun o => by simp
  have hW1 : ∀ w', R.Keeps (v.ownBlock.toList) (w.alloc (Obj.cells #[Value.int IntKind.i64 f, Value.int IntKind.i64 t, Value.int IntKind.i64 r, Value.int IntKind.i64 g] 106)) w' →
      w'.cell? ⟨b, 1, none⟩ = some v ∧ w'.cell? ⟨w.heap.size, 0, none⟩ = some (.int .i64 f) ∧ w'.cell? ⟨w.heap.size, 1, none⟩ = some (.int .i64 t) ∧ w'.cell? ⟨w.heap.size, 2, none⟩ = some (.int .i64 r) ∧ w'.cell? ⟨w.heap.size, 3, none⟩ = some (.int .i64 g) := by
    intro w' h
    have hx : ∀ k, v.ownBlock ≠ some k → k ∉ v.ownBlock.toList := fun k hk h2 => hk (by simpa using h2)
    have hx2 : w.heap.size ∉ v.ownBlock.toList := hx _ (fun e => by have := hown.lt _ e; omega)
    refine ⟨h.cell (a := ⟨b, 1, none⟩) ?_ (hx _ hne), h.cell (a := ⟨w.heap.size, 0, none⟩) ?_ hx2, h.cell (a := ⟨w.heap.size, 1, none⟩) ?_ hx2, h.cell (a := ⟨w.heap.size, 2, none⟩) ?_ hx2, h.cell (a := ⟨w.heap.size, 3, none⟩) ?_ hx2⟩
    · rw [← hc1]; exact ((Below.refl w.heap.size w).alloc (Nat.le_refl _) _).cell (p := ⟨b, 1, none⟩) hbs
    all_goals simp [go_sem]
  have HW1 := Lib.hid hW1
  clear hW1
  go_enter Try.func91, Try.ntmps91
  go_wp2_with fail
  apply R.wp_region_text [0, 1, 2, 3, 4, 5, 6, 7, 8, 9, 10, 11, 12, 13, 14] [15, 16, 17, 18, 19] 17 (R.Keeps (v.ownBlock.toList) (w.alloc (Obj.cells #[Value.int IntKind.i64 f, Value.int IntKind.i64 t, Value.int IntKind.i64 r, Value.int IntKind.i64 g] 106)))
  case hm => kernel_rfl
  case hB => kernel_rfl
  case hd => rfl
  case hQ => exact fun _ _ _ _ _ h => h
  case hS => exact (R.Keeps.refl _ _).drew
  case hF =>
    intro w' hS
    obtain ⟨g1, g2, g3, g4, g5⟩ := HW1.out w' hS
    have HS := Lib.hid hS
    clear hS
    simp only [R.pickC, List.filterMap_cons, List.getElem?_toArray, List.getElem?_cons_zero, List.getElem?_cons_succ, List.filterMap_nil]
    repeat still_step
    exact wpStill_nil rfl
  case hC =>
    simp only [R.chainOf, List.getElem?_toArray, List.getElem?_cons_zero, List.getElem?_cons_succ, Nat.reduceBNe, Bool.and_true, Bool.and_false, Bool.false_and]
    refine R.wpSeq_same (fun K hK => ?_)
    go_simp
    refine hK _ _ ((R.Keeps.refl _ _).alloc _).drew ?_
    clear hK K
    refine R.wpSeq_same (fun K hK => ?_)
    refine step_append_lies _ (by rfl) _ _ _ (by rfl) base 106 i0 _ 4 32 Try.underlying107 hi0 hz0 hz1 hz2 rfl (by omega) v arcs.length (arcsC arcs) (by rfl) (((hown.alloc _).alloc _).drew)
        ⟨w.heap.size + 1, 0, none⟩ 2 2 (arcC ⟨f, t, r, g⟩ ++ arcC ⟨t, f, back, IntKind.i64.wrap (-g)⟩) (by rfl) (by rfl) ?hnews ?hone
        (by omega) (by unfold maxLen; omega) (by omega) (by simp; omega) (w.heap.size + 2) (by simp) ?_
    case hnews =>
      have h8 : ((w.alloc (Obj.cells #[Value.int IntKind.i64 f, Value.int IntKind.i64 t, Value.int IntKind.i64 r, Value.int IntKind.i64 g] 106)).alloc (Obj.cells #[Value.int IntKind.i64 f, Value.int IntKind.i64 t, Value.int IntKind.i64 r, Value.int IntKind.i64 g, Value.int IntKind.i64 t, Value.int IntKind.i64 f, Value.int IntKind.i64 back, Value.int IntKind.i64 (IntKind.i64.wrap (-g))] 106)).heap[w.heap.size + 1]? = some (Obj.cells #[Value.int IntKind.i64 f, Value.int IntKind.i64 t, Value.int IntKind.i64 r, Value.int IntKind.i64 g, Value.int IntKind.i64 t, Value.int IntKind.i64 f, Value.int IntKind.i64 back, Value.int IntKind.i64 (IntKind.i64.wrap (-g))] 106) := by
        rw [← hz (Obj.cells #[Value.int IntKind.i64 f, Value.int IntKind.i64 t, Value.int IntKind.i64 r, Value.int IntKind.i64 g] 106), heap_alloc_new]
      exact fun j u hu => World.news_of_block h8 j u hu
    case hone =>
      intro u hu
      simp [arcC] at hu
      rcases hu with rfl | rfl | rfl | rfl | rfl | rfl | rfl | rfl <;> rfl
    intro gg cap w1 hown1 hgrow hat hlt
    refine hK _ _ (((R.Keeps.refl _ _).alloc _).drew.grown hgrow (fun k hk _ => by simp [hk])) ?_
    clear hK K
    have hb1 : w1.heap[b]? = some (.cells #[.int .i64 n, v] 109 (0, 0)) := by
      rw [hgrow.block b (by simp; omega) (Ne.symm hne)]
      show ((w.alloc _).alloc _).heap[b]? = _
      rw [Below.heap_alloc _ _ _ (by simp; omega), Below.heap_alloc _ _ _ hbs, hblk]
    have hc1' : w1.cell? ⟨b, 1, none⟩ = some v := by simp [World.cell?, hb1]
    have hfz : w1.frozen? ⟨b, 1, none⟩ = false := by simp [World.frozen?, hb1]
    refine R.wpSeq_tail _ rfl ?_
    simp only [List.map_cons, List.map_nil]
    go_wp2_with fail
    go_end0
    have hgb : gg ≠ b := by
      rcases hat with h | h
      · rintro rfl; exact hne h
      · omega
    have hbase : base ≤ gg := by
      rcases hat with h | h
      · exact (hown.lt _ h).1
      · omega
    have hB1 : Below base w w1 := by
      refine (((Below.refl base w).alloc (by omega) _).alloc (by simp; omega) _).drew.grown hgrow (by simp; omega) (fun k hk => (hown.lt _ hk).1)
    refine ⟨rfl, ⟨hb, .slice (some ⟨gg, 0, none⟩) (arcs.length + 2) cap, ?_, ?_, ?_⟩, hB1.setCell (p := ⟨b, 1, none⟩) hb _, ?_⟩
    · simp [World.setCell, Array.getElem?_modify, hb1]
    · simpa [Value.ownBlock] using hgb
    · have e : arcsC (addF arcs f t r g back) = arcsC arcs ++ (arcC ⟨f, t, r, g⟩ ++ arcC ⟨t, f, back, IntKind.i64.wrap (-g)⟩) := by simp [arcsC, addF]
      rw [e, show (addF arcs f t r g back).length = arcs.length + 2 by simp [addF]]
      refine own_move hown1 (fun k hk => ?_)
      have : gg = k := by simpa [Value.ownBlock] using hk
      subst this
      exact Below.heap_setCell _ _ _ _ hgb
    · intro k ⟨hk1, hk2, hk3⟩
      have hnk := hk3 v hblk
      have hs1 : w.heap.size + 2 ≤ w1.heap.size := by have := hgrow.size; simp at this; omega
      refine ⟨?_, by simp [World.setCell]; omega, hk2, ?_⟩
      · rw [Below.heap_setCell _ _ _ _ hk2, hgrow.block k (by simp; omega) (Ne.symm hnk)]
        show ((w.alloc _).alloc _).heap[k]? = _
        rw [Below.heap_alloc _ _ _ (by simp; omega), Below.heap_alloc _ _ _ hk1]
      · intro v' hv'
        have : (World.setCell w1 ⟨b, 1, none⟩ (.slice (some ⟨gg, 0, none⟩) (arcs.length + 2) cap)).heap[b]? = some (.cells #[.int .i64 n, .slice (some ⟨gg, 0, none⟩) (arcs.length + 2) cap] 109 (0, 0)) := by
          simp [World.setCell, Array.getElem?_modify, hb1]
        rw [this] at hv'
        simp at hv'
        subst hv'
        simp only [Value.ownBlock, ne_eq, Option.some.injEq]
        rintro rfl
        rcases hat with h | h
        · exact hnk h
        · omega
end Go.Proofs.Ytpjobcnfjpbaeaa.A

set_option linter.unusedVariables false
set_option linter.unusedSimpArgs false
namespace Go.Proofs.Ytpjobcnfjpbaeaa.A
open Go.RowKit Go.Proofs.YtpjobcnfjpbaeaaW.PrintWords Go.Proofs.YtpjobcnfjpbaeaaW.PrintLast Go.Proofs.YtpjobcnfjpbaeaaW.PrintMore
open Go.Proofs.Ytpjobcnfjpbaeaa.PA
theorem FlowAt.open {w : World} {base b : Nat} {n : Int} {arcs : List S106} (h : FlowAt w base b n arcs) (hl : 0 < arcs.length) :
    ∃ g cap cur, base ≤ b ∧ base ≤ g ∧ g ≠ b ∧ w.heap[b]? = some (.cells #[.int .i64 n, .slice (some ⟨g, 0, none⟩) arcs.length cap] 109 (0, 0)) ∧ w.heap[g]? = some (.cells cur 106 (0, 0)) ∧
      arcs.length ≤ cap ∧ cap ≤ maxLen ∧ cur.size = cap * 4 ∧ cur.toList.take (arcs.length * 4) = arcsC arcs := by
  obtain ⟨hb, v, hblk, hne, hx, h⟩ := h
  rcases h with ⟨rfl, h0⟩ | ⟨g, cap, cur, rfl, hg, hh, h1, h2, h3, h4⟩
  · omega
  · exact ⟨g, cap, cur, hb, hg, by simpa [Value.ownBlock] using hne, hblk, hh, h1, h2, h3, h4⟩
theorem arcsC_get (l : List S106) : ∀ (k : Nat) (x : S106), l[k]? = some x → (arcsC l)[k * 4]? = some (.int .i64 x.f0) ∧ (arcsC l)[k * 4 + 1]? = some (.int .i64 x.f1) ∧ (arcsC l)[k * 4 + 2]? = some (.int .i64 x.f2) ∧ (arcsC l)[k * 4 + 3]? = some (.int .i64 x.f3) := by
  induction l with
  | nil => intro k x h; simp at h
  | cons a l ih =>
    intro k x h
    have e : arcsC (a :: l) = arcC a ++ arcsC l := rfl
    rw [e]
    cases k with
    | zero =>
      obtain rfl : a = x := by simpa using h
      simp [arcC]
    | succ k =>
      have h' := ih k x (by simpa using h)
      have h4 : (arcC a).length = 4 := rfl
      refine ⟨?_, ?_, ?_, ?_⟩
      · rw [List.getElem?_append_right (by rw [h4]; omega), h4, show (k + 1) * 4 - 4 = k * 4 by omega]; exact h'.1
      · rw [List.getElem?_append_right (by rw [h4]; omega), h4, show (k + 1) * 4 + 1 - 4 = k * 4 + 1 by omega]; exact h'.2.1
      · rw [List.getElem?_append_right (by rw [h4]; omega), h4, show (k + 1) * 4 + 2 - 4 = k * 4 + 2 by omega]; exact h'.2.2.1
      · rw [List.getElem?_append_right (by rw [h4]; omega), h4, show (k + 1) * 4 + 3 - 4 = k * 4 + 3 by omega]; exact h'.2.2.2
theorem arcsC_set (l : List S106) : ∀ (k : Nat) (x : S106) (r : Int), l[k]? = some x → (arcsC l).set (k * 4 + 2) (.int .i64 r) = arcsC (l.set k ⟨x.f0, x.f1, r, x.f3⟩) := by
  induction l with
  | nil => intro k x r h; simp at h
  | cons a l ih =>
    intro k x r h
    have e : ∀ a l, arcsC (a :: l) = arcC a ++ arcsC l := fun _ _ => rfl
    rw [e]
    cases k with
    | zero =>
      obtain rfl : a = x := by simpa using h
      simp [arcC, e]
    | succ k =>
      have h4 : (arcC a).length = 4 := rfl
      rw [List.set_append_right _ _ (by rw [h4]; omega), h4, show (k + 1) * 4 + 2 - 4 = k * 4 + 2 by omega, ih k x r (by simpa using h)]
      simp [e]
set_option maxRecDepth 100000 in
set_option maxHeartbeats 1600000 in
theorem send_c (base b : Nat) (n : Int) (arcs : List S106) (k j : Nat) (x y : S106) (w : World) (hF : FlowAt w base b n arcs) (hk : arcs[k]? = some x) (hj : arcs[j]? = some y) (hkj : k ≠ j) (hxor : bits BinOp.xor IntKind.i64 (k : Int) 1 = (j : Int)) (hlen : arcs.length ≤ 100000) :
    Calls Try.prog 92 #[.pointer (some ⟨b, 0, none⟩), .int .i64 k] w fun e w' =>
      e = .returned (.tuple #[]) ∧ FlowAt w' base b n ((arcs.set k ⟨x.f0, x.f1, wrap64 (x.f2 - 1), x.f3⟩).set j ⟨y.f0, y.f1, wrap64 (y.f2 + 1), y.f3⟩) ∧ Below base w w' ∧ FlowFrame w w' b n := by
  have hkl := (List.getElem?_eq_some_iff.1 hk).1
  obtain ⟨g, cap, cur, hb, hg, hgb, hblk, hrow, hc1, hc2, hcs, hct⟩ := hF.open (by omega)
  have hx := (arcsC_get arcs k x hk)
  have cellg : ∀ i u, (arcsC arcs)[i]? = some u → w.cell? ⟨g, i, none⟩ = some u := by
    intro i u h
    rw [← hct] at h
    have hi : i < arcs.length * 4 := by
      rcases Nat.lt_or_ge i (arcs.length * 4) with h' | h'
      · exact h'
      · rw [List.getElem?_eq_none (by rw [List.length_take]; omega)] at h; cases h
    rw [List.getElem?_take_of_lt hi] at h
    simp [World.cell?, hrow]
    simpa using h
  have hcell : w.cell? ⟨b, 1, none⟩ = some (.slice (some ⟨g, 0, none⟩) arcs.length cap) := by simp [World.cell?, hblk]
  have hkr : w.cell? ⟨g, k * 4 + 2, none⟩ = some (.int .i64 x.f2) := cellg _ _ hx.2.2.1
  have hkf : w.frozen? ⟨g, k * 4 + 2, none⟩ = false := by simp [World.frozen?, hrow]
  have hk64 : (k : Int) < arcs.length := by omega
  have hjl := (List.getElem?_eq_some_iff.1 hj).1
  have hj64 : (j : Int) < arcs.length := by omega
  have hy := (arcsC_get arcs j y hj)
  have hjr : w.cell? ⟨g, j * 4 + 2, none⟩ = some (.int .i64 y.f2) := cellg _ _ hy.2.2.1
  have hcell1 : (w.setCell ⟨g, k * 4 + 2, none⟩ (.int .i64 (wrap64 (x.f2 - 1)))).cell? ⟨b, 1, none⟩ = some (.slice (some ⟨g, 0, none⟩) arcs.length cap) := by
    rw [World.cell?_setCell_far _ _ _ _ hgb, hcell]
  have hjr1 : (w.setCell ⟨g, k * 4 + 2, none⟩ (.int .i64 (wrap64 (x.f2 - 1)))).cell? ⟨g, j * 4 + 2, none⟩ = some (.int .i64 y.f2) := by
    rw [World.cell?_setCell_other _ _ _ _ (by intro e; injection e with _ e2; omega), hjr]
  have hjf1 : (w.setCell ⟨g, k * 4 + 2, none⟩ (.int .i64 (wrap64 (x.f2 - 1)))).frozen? ⟨g, j * 4 + 2, none⟩ = false := by
    simp [World.frozen?, World.setCell, Array.getElem?_modify, hrow]
  have HF := Lib.hid hF
  have HK := Lib.hid hk
  have HJ := Lib.hid hj
  have HR := Lib.hid hrow
  have HB := Lib.hid hblk
  have HT := Lib.hid hct
  have HS := Lib.hid hcs
  clear hF hk hj hx hy cellg hrow hblk hct hcs hjr
  go_enter Try.func92, Try.ntmps92
  go_wp2_with fail
  go_end0
  refine ⟨rfl, ⟨hb, .slice (some ⟨g, 0, none⟩) arcs.length cap, ?_, by simpa [Value.ownBlock] using hgb, ?_⟩, (((Below.refl base w).setCell (p := ⟨g, k * 4 + 2, none⟩) hg _).setCell (p := ⟨g, j * 4 + 2, none⟩) hg _), ?_⟩
  · rw [Below.heap_setCell _ _ _ _ (Ne.symm hgb), Below.heap_setCell _ _ _ _ (Ne.symm hgb), HB.out]
  · have hown : w.ownsRow base 106 4 (.slice (some ⟨g, 0, none⟩) arcs.length cap) arcs.length (arcsC arcs) :=
      ⟨arcsC_len arcs, .inr ⟨g, cap, cur, rfl, hg, HR.out, hc1, hc2, HS.out, HT.out⟩⟩
    have h1 := ((hown.stored (k * 4 + 2) (.int .i64 (wrap64 (x.f2 - 1)))).1.stored (j * 4 + 2) (.int .i64 (wrap64 (y.f2 + 1)))).1
    rw [arcsC_set arcs k x _ HK.out, arcsC_set (arcs.set k _) j y _ (by rw [List.getElem?_set_ne hkj]; exact HJ.out)] at h1
    simpa using h1
  · intro i ⟨hi1, hi2, hi3⟩
    have hni : i ≠ g := by have := hi3 _ HB.out; rintro rfl; exact this rfl
    have e : ((w.setCell ⟨g, k * 4 + 2, none⟩ (.int .i64 (wrap64 (x.f2 - 1)))).setCell ⟨g, j * 4 + 2, none⟩ (.int .i64 (wrap64 (y.f2 + 1)))).heap[b]? = w.heap[b]? := by
      rw [Below.heap_setCell _ _ _ _ (Ne.symm hgb), Below.heap_setCell _ _ _ _ (Ne.symm hgb)]
    refine ⟨by rw [Below.heap_setCell _ _ _ _ hni, Below.heap_setCell _ _ _ _ hni], by simp [World.setCell]; omega, hi2, fun v hv => hi3 v (by rw [← e]; exact hv)⟩
end Go.Proofs.Ytpjobcnfjpbaeaa.A

set_option linter.unusedVariables false
set_option linter.unusedSimpArgs false
namespace Go.Proofs.Ytpjobcnfjpbaeaa.A
open Go.RowKit Go.Proofs.YtpjobcnfjpbaeaaW.PrintWords Go.Proofs.YtpjobcnfjpbaeaaW.PrintLast Go.Proofs.YtpjobcnfjpbaeaaW.PrintMore
open Go.Proofs.Ytpjobcnfjpbaeaa.PA
def ints (xs : List Int) : List Value := xs.map (Value.int .i64)
def IntRow (w : World) (g : Nat) (xs : List Int) : Prop := w.heap[g]? = some (.cells (ints xs).toArray 3 (0, 0))
theorem IntRow.lt {w : World} {g : Nat} {xs : List Int} (h : IntRow w g xs) : g < w.heap.size := by
  rcases Nat.lt_or_ge g w.heap.size with h' | h'
  · exact h'
  · unfold IntRow at h; rw [Array.getElem?_eq_none h'] at h; cases h
theorem IntRow.cell {w : World} {g : Nat} {xs : List Int} (h : IntRow w g xs) {i : Nat} {x : Int} (hx : xs[i]? = some x) : w.cell? ⟨g, i, none⟩ = some (.int .i64 x) := by
  unfold IntRow at h
  simp [World.cell?, h, ints, hx]
theorem IntRow.free {w : World} {g : Nat} {xs : List Int} (h : IntRow w g xs) (i : Nat) : w.frozen? ⟨g, i, none⟩ = false := by
  unfold IntRow at h
  simp [World.frozen?, h]
theorem IntRow.set {w : World} {g : Nat} {xs : List Int} (h : IntRow w g xs) (i : Nat) (x : Int) : IntRow (w.setCell ⟨g, i, none⟩ (.int .i64 x)) g (xs.set i x) := by
  unfold IntRow at h ⊢
  simp [World.setCell, Array.getElem?_modify, h, ints, List.map_set]
theorem IntRow.far {w : World} {g : Nat} {xs : List Int} (h : IntRow w g xs) {p : Addr} (hp : g ≠ p.block) (u : Value) : IntRow (w.setCell p u) g xs := by
  unfold IntRow; rw [Below.heap_setCell _ _ _ _ hp]; exact h
theorem IntRow.keep {w w' : World} {g : Nat} {xs : List Int} (h : IntRow w g xs) {X : List Nat} (hk : R.Keeps X w w') (hx : g ∉ X) : IntRow w' g xs := (hk.block g h.lt hx).trans h
theorem IntRow.below {w w' : World} {g : Nat} {xs : List Int} (h : IntRow w g xs) (hk : Below w.heap.size w w') : IntRow w' g xs := (hk.block g h.lt).trans h
theorem IntRow.alloc {w : World} {g : Nat} {xs : List Int} (h : IntRow w g xs) (o : Obj) : IntRow (w.alloc o) g xs := by
  unfold IntRow; rw [Below.heap_alloc _ _ _ h.lt]; exact h
theorem IntRow.mk (w : World) (xs : List Int) : IntRow (w.alloc (.cells (ints xs).toArray 3)) w.heap.size xs := heap_alloc_new _ _
theorem ints_length (xs : List Int) : (ints xs).length = xs.length := by simp [ints]
theorem make_ints (m : Nat) (hm : m ≤ 1000000) (w : World) : (Instr.makeSlice 23 (.int .i64 (m : Int)) (.int .i64 (m : Int))).run Try.prog w =
    .ok (.slice (some ⟨w.heap.size, 0, none⟩) m m) (w.alloc (.cells (ints (List.replicate m 0)).toArray 3)) := by
  obtain ⟨i0, hi0, hz0, hz1, hz2⟩ := info_parts info3
  have h := run_make (P := Try.prog) w 23 3 i0 (.int .i64 0) Try.underlying23 hi0 hz0 .i64 .i64 m m (by omega) (by omega) (by rw [hz2]; omega) (by omega)
  rw [h, hz1]
  have e : madeCells (Value.int IntKind.i64 0).cells ((m : Int).toNat * 1) = (ints (List.replicate m 0)).toArray := by
    have h1 := toList_madeCells_one (.int .i64 0) m
    rw [show (m : Int).toNat * 1 = m by omega]
    apply Array.ext'
    rw [show (Value.int IntKind.i64 0).cells = #[.int .i64 0] from rfl, h1]
    simp [ints]
  rw [e]
  rfl
def gt0 (xs : List Int) (i : Int) : Int := xs.getD i.toNat 0
def imp (g : List Int) (a : S106) : Bool := decide (0 < a.f2) && (decide (-1099511627776 < gt0 g a.f0) && decide (gt0 g a.f1 < IntKind.i64.wrap (gt0 g a.f0 + a.f3)))
def relaxF : Nat → List S106 → List Int → List Int → Option (List Int × List Int)
  | 0, _, _, _ => none
  | k + 1, arcs, g, b => match arcs.findIdx? (imp g) with
    | none => some (g, b)
    | some i => relaxF k arcs (g.set (arcs.getD i z106).f1.toNat (IntKind.i64.wrap (gt0 g (arcs.getD i z106).f0 + (arcs.getD i z106).f3))) (b.set (arcs.getD i z106).f1.toNat i)
theorem findIdx_hit {α : Type} {p : α → Bool} {xs : List α} {k : Nat} {x : α} (h : (xs.take k).all (fun x => !p x) = true) (hx : xs[k]? = some x) (hp : p x = true) : xs.findIdx? p = some k := by
  have hk : k < xs.length := (List.getElem?_eq_some_iff.1 hx).1
  rw [List.findIdx?_eq_some_iff_getElem]
  refine ⟨hk, ?_, fun j hj => ?_⟩
  · rw [(List.getElem?_eq_some_iff.1 hx).2]; exact hp
  · rw [List.all_eq_true] at h
    have := h (xs[j]'(by omega)) (by rw [List.mem_take_iff_getElem]; exact ⟨j, by omega, rfl⟩)
    simpa using this
theorem findIdx_miss {α : Type} {p : α → Bool} {xs : List α} (h : xs.all (fun x => !p x) = true) : xs.findIdx? p = none := by
  rw [List.findIdx?_eq_none_iff]
  intro x hx
  rw [List.all_eq_true] at h
  simpa using h x hx
theorem relaxF_hit {k i : Nat} {arcs : List S106} {g b : List Int} {a : S106} {r : List Int × List Int} (h : relaxF (k + 1) arcs g b = some r) (hall : (arcs.take i).all (fun a => !imp g a) = true) (hx : arcs[i]? = some a) (hp : imp g a = true) :
    relaxF k arcs (g.set a.f1.toNat (IntKind.i64.wrap (gt0 g a.f0 + a.f3))) (b.set a.f1.toNat i) = some r := by
  unfold relaxF at h
  rw [findIdx_hit hall hx hp] at h
  have : arcs.getD i z106 = a := by simp [hx]
  simpa only [this] using h
theorem relaxF_done {k : Nat} {arcs : List S106} {g b : List Int} {r : List Int × List Int} (h : relaxF k arcs g b = some r) (hall : arcs.all (fun a => !imp g a) = true) : r = (g, b) := by
  cases k with
  | zero => simp [relaxF] at h
  | succ k =>
    unfold relaxF at h
    rw [findIdx_miss hall] at h
    simpa using h.symm
def ArcsIn (m : Nat) (arcs : List S106) : Prop := ∀ (i : Nat) (a : S106), arcs[i]? = some a → 0 ≤ a.f0 ∧ a.f0 < m ∧ 0 ≤ a.f1 ∧ a.f1 < m
end Go.Proofs.Ytpjobcnfjpbaeaa.A

set_option linter.unusedVariables false
set_option linter.unusedSimpArgs false
namespace Go.Proofs.Ytpjobcnfjpbaeaa.A
open Go.RowKit Go.Proofs.YtpjobcnfjpbaeaaW.PrintWords Go.Proofs.YtpjobcnfjpbaeaaW.PrintLast Go.Proofs.YtpjobcnfjpbaeaaW.PrintMore
open Go.Proofs.Ytpjobcnfjpbaeaa.PA
theorem arc_cells {w : World} {g : Nat} {cur : Array Value} {arcs : List S106} {i : Nat} {x : S106} (hrow : w.heap[g]? = some (.cells cur 106 (0, 0))) (hct : cur.toList.take (arcs.length * 4) = arcsC arcs) (hx : arcs[i]? = some x) :
    w.cell? ⟨g, i * 4, none⟩ = some (.int .i64 x.f0) ∧ w.cell? ⟨g, i * 4 + 1, none⟩ = some (.int .i64 x.f1) ∧ w.cell? ⟨g, i * 4 + 2, none⟩ = some (.int .i64 x.f2) ∧ w.cell? ⟨g, i * 4 + 3, none⟩ = some (.int .i64 x.f3) := by
  have cellg : ∀ i u, (arcsC arcs)[i]? = some u → w.cell? ⟨g, i, none⟩ = some u := by
    intro i u h
    rw [← hct] at h
    have hi : i < arcs.length * 4 := by
      rcases Nat.lt_or_ge i (arcs.length * 4) with h' | h'
      · exact h'
      · rw [List.getElem?_eq_none (by rw [List.length_take]; omega)] at h; cases h
    rw [List.getElem?_take_of_lt hi] at h
    simp [World.cell?, hrow]
    simpa using h
  have h := arcsC_get arcs i x hx
  exact ⟨cellg _ _ h.1, cellg _ _ h.2.1, cellg _ _ h.2.2.1, cellg _ _ h.2.2.2⟩
set_option maxRecDepth 100000 in
set_option maxHeartbeats 3200000 in
theorem relax_c (base b gg m k : Nat) (n : Int) (arcs : List S106) (g0 g1 b1 : List Int) (w : World) (hF : FlowAt w base b n arcs) (hl : 0 < arcs.length) (hlen : arcs.length ≤ 100000)
    (hI : ArcsIn m arcs) (hm : g0.length = m) (hm1 : m ≤ 1000000) (hg : IntRow w gg g0) (hgb : ∀ v, w.heap[b]? = some (.cells #[.int .i64 n, v] 109 (0, 0)) → gg ≠ b ∧ v.ownBlock ≠ some gg)
    (h : relaxF k arcs g0 (List.replicate m 0) = some (g1, b1)) :
    Calls Try.prog 78 #[.pointer (some ⟨b, 0, none⟩), .slice (some ⟨gg, 0, none⟩) m m] w fun e w' =>
      e = .returned (.slice (some ⟨w.heap.size, 0, none⟩) m m) ∧ IntRow w' w.heap.size b1 ∧ IntRow w' gg g1 ∧ R.Keeps [gg] w w' := by
  obtain ⟨g, cap, cur, hb, hbg, hgb1, hblk, hrow, hc1, hc2, hcs, hct⟩ := hF.open hl
  obtain ⟨hgb2, hgg⟩ := hgb _ hblk
  have hgg' : g ≠ gg := by simpa [Value.ownBlock] using hgg
  have hmk := make_ints m hm1
  go_enter Try.func78, Try.ntmps78
  go_wp2_with fail
  go_step3
  go_wp2_with fail
  go_step3
  go_wp2_with fail
  have hK0 : R.Keeps [gg] w (w.alloc (Obj.cells (ints (List.replicate m 0)).toArray 3)) := (R.Keeps.refl _ _).alloc _
  have hrow0 : IntRow (w.alloc (Obj.cells (ints (List.replicate m 0)).toArray 3)) w.heap.size (List.replicate m 0) := IntRow.mk _ _
  have hg' := hg.alloc (Obj.cells (ints (List.replicate m 0)).toArray 3)
  have hggl := hg.lt
  obtain ⟨w0, hw0⟩ : ∃ w0, w0 = w.alloc (Obj.cells (ints (List.replicate m 0)).toArray 3) := ⟨_, rfl⟩
  rw [← hw0] at hK0 hrow0 hg' ⊢
  have H := Lib.hid h
  have HW0 := Lib.hid hw0
  have HB := Lib.hid hblk
  have HR := Lib.hid hrow
  have HT := Lib.hid hct
  have HS := Lib.hid hcs
  have HI := Lib.hid hI
  have HM := Lib.hid hm
  clear h hw0 hblk hrow hct hcs hgb hI hm hF
  go_loopg [] k (fun kq wr => ∃ (gn bn : List Int), Hid (relaxF kq arcs gn bn = some (g1, b1)) ∧ Hid (gn.length = m) ∧ Hid (bn.length = m) ∧ R.Keeps [gg] w wr ∧ IntRow wr w.heap.size bn ∧ IntRow wr gg gn)
  case atStart => exact ⟨g0, _, H, HM, List.length_replicate, hK0, hrow0, hg'⟩
  case round =>
    obtain ⟨gn, bn, HX, hgn, hbn, hK, hBn, hGn⟩ := hrel
    have hcell : wr.cell? ⟨b, 1, none⟩ = some (.slice (some ⟨g, 0, none⟩) arcs.length cap) := hK.cell (by simp [World.cell?, HB.out]) (by simpa using Ne.symm hgb2)
    go_wp2_with fail
    have HK := Lib.hid hK
    clear hK
    clear hcell
    cases gk with
    | zero => exact absurd HX.out (by simp [relaxF])
    | succ ko =>
    obtain ⟨wo, hwo⟩ : ∃ wo, wo = wr := ⟨_, rfl⟩
    rw [← hwo] at hBn hGn HK ⊢
    clear hwo
    go_loopg [16] arcs.length (fun q v16 wr => ∃ i : Nat, v16 = .int .i64 (i : Int) ∧ Hid (i + q = arcs.length) ∧ Hid ((arcs.take i).all (fun a => !imp gn a) = true) ∧ R.Keeps [] wo wr)
    case atStart => exact ⟨0, rfl, Nat.zero_add _, rfl, R.Keeps.refl _ _⟩
    case round =>
      obtain ⟨i, rfl, hiq, hall, hKi⟩ := hrel
      by_cases hlt : i < arcs.length
      · obtain ⟨x, hx⟩ : ∃ x, arcs[i]? = some x := ⟨_, List.getElem?_eq_getElem hlt⟩
        have hlt' : (i : Int) < arcs.length := by omega
        have hKo := HK.out
        obtain ⟨c0, c1, c2, c3⟩ := arc_cells HR.out HT.out hx
        have d0 := hKi.cell (hKo.cell c0 (by simpa using hgg')) (by simp)
        have d1 := hKi.cell (hKo.cell c1 (by simpa using hgg')) (by simp)
        have d2 := hKi.cell (hKo.cell c2 (by simpa using hgg')) (by simp)
        have d3 := hKi.cell (hKo.cell c3 (by simpa using hgg')) (by simp)
        obtain ⟨i0, i1, i2, i3⟩ := HI.out i x hx
        obtain ⟨f0, f1, r, e⟩ := x
        obtain ⟨p, rfl⟩ := Int.eq_ofNat_of_zero_le i0
        obtain ⟨q, rfl⟩ := Int.eq_ofNat_of_zero_le i2
        have i1' : (p : Int) < m := i1
        have i3' : (q : Int) < m := i3
        obtain ⟨gp, hgp⟩ : ∃ v, gn[p]? = some v := ⟨_, List.getElem?_eq_getElem (by rw [hgn.out]; omega)⟩
        obtain ⟨gq, hgq⟩ : ∃ v, gn[q]? = some v := ⟨_, List.getElem?_eq_getElem (by rw [hgn.out]; omega)⟩
        have himp : imp gn ⟨p, q, r, e⟩ = (decide (0 < r) && (decide (-1099511627776 < gp) && decide (gq < IntKind.i64.wrap (gp + e)))) := by
          simp [imp, gt0, hgp, hgq]
        have HIMP := Lib.hid himp
        have HX' := Lib.hid hx
        have HGP := Lib.hid hgp
        have HGQ := Lib.hid hgq
        have cB := (wr.alloc (Obj.cells #[Value.int IntKind.i64 p, Value.int IntKind.i64 q, Value.int IntKind.i64 r, Value.int IntKind.i64 e] 106)).cell? ⟨wr.heap.size, 0, none⟩
        have cells : ∀ w', R.Keeps [] (wr.alloc (Obj.cells #[Value.int IntKind.i64 p, Value.int IntKind.i64 q, Value.int IntKind.i64 r, Value.int IntKind.i64 e] 106)) w' →
            w'.cell? ⟨wr.heap.size, 0, none⟩ = some (.int .i64 p) ∧ w'.cell? ⟨wr.heap.size, 1, none⟩ = some (.int .i64 q) ∧ w'.cell? ⟨wr.heap.size, 2, none⟩ = some (.int .i64 r) ∧ w'.cell? ⟨wr.heap.size, 3, none⟩ = some (.int .i64 e) ∧
            w'.cell? ⟨gg, p, none⟩ = some (.int .i64 gp) ∧ w'.cell? ⟨gg, q, none⟩ = some (.int .i64 gq) := by
          intro w' h
          have hGn' := ((hGn.keep hKi (by simp)).alloc (Obj.cells #[Value.int IntKind.i64 p, Value.int IntKind.i64 q, Value.int IntKind.i64 r, Value.int IntKind.i64 e] 106)).keep h (by simp)
          refine ⟨h.cell (a := ⟨wr.heap.size, 0, none⟩) ?_ (by simp), h.cell (a := ⟨wr.heap.size, 1, none⟩) ?_ (by simp), h.cell (a := ⟨wr.heap.size, 2, none⟩) ?_ (by simp), h.cell (a := ⟨wr.heap.size, 3, none⟩) ?_ (by simp), hGn'.cell hgp, hGn'.cell hgq⟩
          all_goals simp [go_sem]
        have hsz : gg < wr.heap.size := by have h1 := hKo.size; have h2 := hKi.size; omega
        have CE := Lib.hid cells
        have HKi := Lib.hid hKi
        clear hKo c0 c1 c2 c3 hKi hx himp hgp hgq cells cB i0 i1 i2 i3
        go_wp2_with fail
        cases gk with
        | zero => exact absurd hiq.out (by omega)
        | succ k1_ =>
        by_cases k1 : 0 < r
        · by_cases k2 : -1099511627776 < gp
          · by_cases k3 : gq < IntKind.i64.wrap (gp + e)
            · have k1' : decide (0 < r) = true := decide_eq_true k1
              have k2' : decide (-1099511627776 < gp) = true := decide_eq_true k2
              have k3' : decide (gq < IntKind.i64.wrap (gp + e)) = true := decide_eq_true k3
              have HHIT : Hid (imp gn ⟨p, q, r, e⟩ = true) := HIMP.out.trans (by rw [k1', k2', k3']; rfl)
              apply R.wp_region_text [0, 1, 2, 3, 4, 5, 6, 7, 8, 9, 10, 11, 12, 13, 14, 15, 16, 17, 18, 19, 20, 21, 22, 23, 24, 25, 26] [] 27 (R.Keeps [] (wr.alloc (Obj.cells #[Value.int IntKind.i64 p, Value.int IntKind.i64 q, Value.int IntKind.i64 r, Value.int IntKind.i64 e] 106)))
              case hm => kernel_rfl
              case hB => kernel_rfl
              case hd => rfl
              case hQ => exact fun _ _ _ _ _ h => h
              case hS => exact (R.Keeps.refl _ _).drew
              case hF =>
                intro w' hS
                obtain ⟨z1, z2, z3, z4, z5, z6⟩ := CE.out w' hS
                have HS := Lib.hid hS
                clear hS
                simp only [R.pickC, List.filterMap_cons, List.getElem?_toArray, List.getElem?_cons_zero, List.getElem?_cons_succ, List.filterMap_nil]
                (with_reducible refine R.wpStill_plain rfl (fun K hK => ?_)); go_simp; with_reducible refine hK _ ?_; clear hK K
                (with_reducible refine R.wpStill_plain rfl (fun K hK => ?_)); go_simp; with_reducible refine hK _ ?_; clear hK K
                (with_reducible refine R.wpStill_plain rfl (fun K hK => ?_)); go_simp; with_reducible refine hK _ ?_; clear hK K
                (with_reducible refine R.wpStill_plain rfl (fun K hK => ?_)); go_simp; with_reducible refine hK _ ?_; clear hK K
                (with_reducible refine R.wpStill_yes (j := 3) (want := true) rfl (by kernel_rfl) (fun K hK => ?_)); go_simp; with_reducible refine hK _ ?_; clear hK K
                (with_reducible refine R.wpStill_yes (j := 3) (want := true) rfl (by kernel_rfl) (fun K hK => ?_)); go_simp; with_reducible refine hK _ ?_; clear hK K
                (with_reducible refine R.wpStill_yes (j := 3) (want := true) rfl (by kernel_rfl) (fun K hK => ?_)); go_simp; with_reducible refine hK _ ?_; clear hK K
                (with_reducible refine R.wpStill_yes (j := 3) (want := true) rfl (by kernel_rfl) (fun K hK => ?_)); go_simp; with_reducible refine hK _ ?_; clear hK K
                (with_reducible refine R.wpStill_yes (j := 3) (want := true) rfl (by kernel_rfl) (fun K hK => ?_)); go_simp; with_reducible refine hK _ ?_; clear hK K
                (with_reducible refine R.wpStill_yes (j := 3) (want := true) rfl (by kernel_rfl) (fun K hK => ?_)); go_simp; with_reducible refine hK _ ?_; clear hK K
                (with_reducible refine R.wpStill_plain rfl (fun K hK => ?_)); go_simp; with_reducible refine hK _ ?_; clear hK K
                (with_reducible refine R.wpStill_plain rfl (fun K hK => ?_)); go_simp; with_reducible refine hK _ ?_; clear hK K
                (with_reducible refine R.wpStill_yes (j := 11) (want := true) rfl (by kernel_rfl) (fun K hK => ?_)); go_simp; with_reducible refine hK _ ?_; clear hK K
                (with_reducible refine R.wpStill_yes (j := 11) (want := true) rfl (by kernel_rfl) (fun K hK => ?_)); go_simp; with_reducible refine hK _ ?_; clear hK K
                (with_reducible refine R.wpStill_yes (j := 11) (want := true) rfl (by kernel_rfl) (fun K hK => ?_)); go_simp; with_reducible refine hK _ ?_; clear hK K
                (with_reducible refine R.wpStill_yes (j := 11) (want := true) rfl (by kernel_rfl) (fun K hK => ?_)); go_simp; with_reducible refine hK _ ?_; clear hK K
                (with_reducible refine R.wpStill_yes (j := 11) (want := true) rfl (by kernel_rfl) (fun K hK => ?_)); go_simp; with_reducible refine hK _ ?_; clear hK K
                (with_reducible refine R.wpStill_yes (j := 11) (want := true) rfl (by kernel_rfl) (fun K hK => ?_)); go_simp; with_reducible refine hK _ ?_; clear hK K
                (with_reducible refine R.wpStill_yes (j := 11) (want := true) rfl (by kernel_rfl) (fun K hK => ?_)); go_simp; with_reducible refine hK _ ?_; clear hK K
                (with_reducible refine R.wpStill_yes (j := 11) (want := true) rfl (by kernel_rfl) (fun K hK => ?_)); go_simp; with_reducible refine hK _ ?_; clear hK K
                (with_reducible refine R.wpStill_yes (j := 11) (want := true) rfl (by kernel_rfl) (fun K hK => ?_)); go_simp; with_reducible refine hK _ ?_; clear hK K
                (with_reducible refine R.wpStill_yes (j := 11) (want := true) rfl (by kernel_rfl) (fun K hK => ?_)); go_simp; with_reducible refine hK _ ?_; clear hK K
                (with_reducible refine R.wpStill_yes (j := 11) (want := true) rfl (by kernel_rfl) (fun K hK => ?_)); go_simp; with_reducible refine hK _ ?_; clear hK K
                (with_reducible refine R.wpStill_yes (j := 11) (want := true) rfl (by kernel_rfl) (fun K hK => ?_)); go_simp; with_reducible refine hK _ ?_; clear hK K
                (with_reducible refine R.wpStill_yes (j := 11) (want := true) rfl (by kernel_rfl) (fun K hK => ?_)); go_simp; with_reducible refine hK _ ?_; clear hK K
                (with_reducible refine R.wpStill_yes (j := 11) (want := true) rfl (by kernel_rfl) (fun K hK => ?_)); go_simp; with_reducible refine hK _ ?_; clear hK K
                (with_reducible refine R.wpStill_plain rfl (fun K hK => ?_)); go_simp; with_reducible refine hK _ ?_; clear hK K
                exact wpStill_nil rfl
              case hC =>
                refine R.wpSeq_nil ?_
                go_wp2_with fail
                apply R.wp_region_text2 [0, 1, 2, 6, 7, 8, 9, 10, 11, 12, 13] [3, 4, 5, 14] [15, 16, 17, 18] 15 17 (R.Keeps [] (wr.alloc (Obj.cells #[Value.int IntKind.i64 p, Value.int IntKind.i64 q, Value.int IntKind.i64 r, Value.int IntKind.i64 e] 106))) (R.Keeps [gg] (wr.alloc (Obj.cells #[Value.int IntKind.i64 p, Value.int IntKind.i64 q, Value.int IntKind.i64 r, Value.int IntKind.i64 e] 106)))
                case hm => kernel_rfl
                case hB => kernel_rfl
                case hd => rfl
                case hQ => exact fun _ _ _ _ _ h => h
                case hS => exact (R.Keeps.refl _ _).drew.drew
                case hS1 => exact (R.Keeps.refl _ _).drew.drew
                case hF =>
                  intro w' hS
                  obtain ⟨z1, z2, z3, z4, z5, z6⟩ := CE.out w' hS.1
                  have HS := Lib.hid hS
                  clear hS
                  simp only [R.pickC, List.filterMap_cons, List.getElem?_toArray, List.getElem?_cons_zero, List.getElem?_cons_succ, List.filterMap_nil]
                  (with_reducible refine R.wpStill_plain rfl (fun K hK => ?_)); go_simp; with_reducible refine hK _ ?_; clear hK K
                  (with_reducible refine R.wpStill_plain rfl (fun K hK => ?_)); go_simp; with_reducible refine hK _ ?_; clear hK K
                  (with_reducible refine R.wpStill_plain rfl (fun K hK => ?_)); go_simp; with_reducible refine hK _ ?_; clear hK K
                  (with_reducible refine R.wpStill_plain rfl (fun K hK => ?_)); go_simp; with_reducible refine hK _ ?_; clear hK K
                  (with_reducible refine R.wpStill_plain rfl (fun K hK => ?_)); go_simp; with_reducible refine hK _ ?_; clear hK K
                  (with_reducible refine R.wpStill_plain rfl (fun K hK => ?_)); go_simp; with_reducible refine hK _ ?_; clear hK K
                  (with_reducible refine R.wpStill_plain rfl (fun K hK => ?_)); go_simp; with_reducible refine hK _ ?_; clear hK K
                  (with_reducible refine R.wpStill_plain rfl (fun K hK => ?_)); go_simp; with_reducible refine hK _ ?_; clear hK K
                  (with_reducible refine R.wpStill_plain rfl (fun K hK => ?_)); go_simp; with_reducible refine hK _ ?_; clear hK K
                  (with_reducible refine R.wpStill_plain rfl (fun K hK => ?_)); go_simp; with_reducible refine hK _ ?_; clear hK K
                  (with_reducible refine R.wpStill_plain rfl (fun K hK => ?_)); go_simp; with_reducible refine hK _ ?_; clear hK K
                  exact wpStill_nil rfl
                case hF1 =>
                  intro w' hS
                  have z2 := hS.cell (a := ⟨wr.heap.size, 1, none⟩) (CE.out _ (R.Keeps.refl _ _)).2.1 (by simp; omega)
                  have HS := Lib.hid hS
                  clear hS
                  simp only [R.pickC, List.filterMap_cons, List.getElem?_toArray, List.getElem?_cons_zero, List.getElem?_cons_succ, List.filterMap_nil]
                  (with_reducible refine R.wpStill_plain rfl (fun K hK => ?_)); go_simp; with_reducible refine hK _ ?_; clear hK K
                  (with_reducible refine R.wpStill_plain rfl (fun K hK => ?_)); go_simp; with_reducible refine hK _ ?_; clear hK K
                  (with_reducible refine R.wpStill_plain rfl (fun K hK => ?_)); go_simp; with_reducible refine hK _ ?_; clear hK K
                  (with_reducible refine R.wpStill_plain rfl (fun K hK => ?_)); go_simp; with_reducible refine hK _ ?_; clear hK K
                  exact wpStill_nil rfl
                case hd1 => rfl
                case hC =>
                  simp only [R.chainOf, List.getElem?_toArray, List.getElem?_cons_zero, List.getElem?_cons_succ, Nat.reduceBNe, Bool.and_true, Bool.and_false, Bool.false_and]
                  have HGn1 := ((hGn.keep HKi.out (by simp)).alloc (Obj.cells #[Value.int IntKind.i64 p, Value.int IntKind.i64 q, Value.int IntKind.i64 r, Value.int IntKind.i64 e] 106))
                  have HBn1 := hBn.keep HKi.out (by simp)
                  obtain ⟨bq, hbq⟩ : ∃ v, bn[q]? = some v := ⟨_, List.getElem?_eq_getElem (by rw [hbn.out]; omega)⟩
                  have e1 := HGn1.cell HGQ.out
                  have e2 := HGn1.free q
                  have HBn2 := (HBn1.far (p := ⟨gg, q, none⟩) (by show w.heap.size ≠ gg; omega) (.int .i64 (IntKind.i64.wrap (gp + e)))).alloc (Obj.cells #[Value.int IntKind.i64 p, Value.int IntKind.i64 q, Value.int IntKind.i64 r, Value.int IntKind.i64 e] 106)
                  have e3 := HBn2.cell hbq
                  have e4 := HBn2.free q
                  have HBQ := Lib.hid hbq
                  clear hbq
                  refine R.wpSeq_one (fun K hK => ?_)
                  go_simp
                  with_reducible refine hK _ _ (R.Keeps.refl _ _).drew.drew ?_
                  clear hK K
                  refine R.wpSeq_one (fun K hK => ?_)
                  go_simp
                  with_reducible refine hK _ _ ((((R.Keeps.refl [gg] wr).setCell (p := ⟨gg, q, none⟩) (fun _ => List.mem_singleton.2 rfl) (.int .i64 (IntKind.i64.wrap (gp + e)))).allocs (by simp [World.setCell]) _).drew.drew) ?_
                  clear hK K
                  rw [i64_w] at e3 e4
                  refine R.wpSeq_tail _ rfl ?_
                  simp only [List.map_cons, List.map_nil]
                  go_wp2_with fail
                  have HKA := HK.out.trans HKi.out (fun k h => by simp at h)
                  have HN := relaxF_hit HX.out hall.out HX'.out HHIT.out
                  rw [show gt0 gn (⟨(p : Int), q, r, e⟩ : S106).f0 = gp from by simp [gt0, HGP.out], i64_w] at HN
                  have HNN := Lib.hid HN
                  clear HN
                  go_roundg ko
                  case measure => omega
                  case rel => exact ⟨_, _, HNN.out, by rw [Hid, List.length_set]; exact hgn.out, by rw [Hid, List.length_set]; exact hbn.out, (((HKA.setCell (p := ⟨gg, q, none⟩) (fun _ => List.mem_singleton.2 rfl) _).alloc _).setCell (p := ⟨w.heap.size, q, none⟩) (fun h => absurd h (Nat.lt_irrefl _)) _).drew.drew, ((HBn1.far (p := ⟨gg, q, none⟩) (by show w.heap.size ≠ gg; omega) _).alloc _).set q i, (((hGn.keep HKi.out (by simp)).set q _).alloc _).far (p := ⟨w.heap.size, q, none⟩) (by show gg ≠ w.heap.size; omega) _⟩
            · have k1' : decide (0 < r) = true := decide_eq_true k1
              have k2' : decide (-1099511627776 < gp) = true := decide_eq_true k2
              have k3' : decide (gq < IntKind.i64.wrap (gp + e)) = false := decide_eq_false k3
              have HMISS : Hid (imp gn ⟨p, q, r, e⟩ = false) := HIMP.out.trans (by rw [k1', k2', k3']; rfl)
              apply R.wp_region_text [0, 1, 2, 3, 4, 5, 6, 7, 8, 9, 10, 11, 12, 13, 14, 15, 16, 17, 18, 19, 20, 21, 22, 23, 24, 25, 26] [] 27 (R.Keeps [] (wr.alloc (Obj.cells #[Value.int IntKind.i64 p, Value.int IntKind.i64 q, Value.int IntKind.i64 r, Value.int IntKind.i64 e] 106)))
              case hm => kernel_rfl
              case hB => kernel_rfl
              case hd => rfl
              case hQ => exact fun _ _ _ _ _ h => h
              case hS => exact (R.Keeps.refl _ _).drew
              case hF =>
                intro w' hS
                obtain ⟨z1, z2, z3, z4, z5, z6⟩ := CE.out w' hS
                have HS := Lib.hid hS
                clear hS
                simp only [R.pickC, List.filterMap_cons, List.getElem?_toArray, List.getElem?_cons_zero, List.getElem?_cons_succ, List.filterMap_nil]
                (with_reducible refine R.wpStill_plain rfl (fun K hK => ?_)); go_simp; with_reducible refine hK _ ?_; clear hK K
                (with_reducible refine R.wpStill_plain rfl (fun K hK => ?_)); go_simp; with_reducible refine hK _ ?_; clear hK K
                (with_reducible refine R.wpStill_plain rfl (fun K hK => ?_)); go_simp; with_reducible refine hK _ ?_; clear hK K
                (with_reducible refine R.wpStill_plain rfl (fun K hK => ?_)); go_simp; with_reducible refine hK _ ?_; clear hK K
                (with_reducible refine R.wpStill_yes (j := 3) (want := true) rfl (by kernel_rfl) (fun K hK => ?_)); go_simp; with_reducible refine hK _ ?_; clear hK K
                (with_reducible refine R.wpStill_yes (j := 3) (want := true) rfl (by kernel_rfl) (fun K hK => ?_)); go_simp; with_reducible refine hK _ ?_; clear hK K
                (with_reducible refine R.wpStill_yes (j := 3) (want := true) rfl (by kernel_rfl) (fun K hK => ?_)); go_simp; with_reducible refine hK _ ?_; clear hK K
                (with_reducible refine R.wpStill_yes (j := 3) (want := true) rfl (by kernel_rfl) (fun K hK => ?_)); go_simp; with_reducible refine hK _ ?_; clear hK K
                (with_reducible refine R.wpStill_yes (j := 3) (want := true) rfl (by kernel_rfl) (fun K hK => ?_)); go_simp; with_reducible refine hK _ ?_; clear hK K
                (with_reducible refine R.wpStill_yes (j := 3) (want := true) rfl (by kernel_rfl) (fun K hK => ?_)); go_simp; with_reducible refine hK _ ?_; clear hK K
                (with_reducible refine R.wpStill_plain rfl (fun K hK => ?_)); go_simp; with_reducible refine hK _ ?_; clear hK K
                (with_reducible refine R.wpStill_plain rfl (fun K hK => ?_)); go_simp; with_reducible refine hK _ ?_; clear hK K
                (with_reducible refine R.wpStill_yes (j := 11) (want := true) rfl (by kernel_rfl) (fun K hK => ?_)); go_simp; with_reducible refine hK _ ?_; clear hK K
                (with_reducible refine R.wpStill_yes (j := 11) (want := true) rfl (by kernel_rfl) (fun K hK => ?_)); go_simp; with_reducible refine hK _ ?_; clear hK K
                (with_reducible refine R.wpStill_yes (j := 11) (want := true) rfl (by kernel_rfl) (fun K hK => ?_)); go_simp; with_reducible refine hK _ ?_; clear hK K
                (with_reducible refine R.wpStill_yes (j := 11) (want := true) rfl (by kernel_rfl) (fun K hK => ?_)); go_simp; with_reducible refine hK _ ?_; clear hK K
                (with_reducible refine R.wpStill_yes (j := 11) (want := true) rfl (by kernel_rfl) (fun K hK => ?_)); go_simp; with_reducible refine hK _ ?_; clear hK K
                (with_reducible refine R.wpStill_yes (j := 11) (want := true) rfl (by kernel_rfl) (fun K hK => ?_)); go_simp; with_reducible refine hK _ ?_; clear hK K
                (with_reducible refine R.wpStill_yes (j := 11) (want := true) rfl (by kernel_rfl) (fun K hK => ?_)); go_simp; with_reducible refine hK _ ?_; clear hK K
                (with_reducible refine R.wpStill_yes (j := 11) (want := true) rfl (by kernel_rfl) (fun K hK => ?_)); go_simp; with_reducible refine hK _ ?_; clear hK K
                (with_reducible refine R.wpStill_yes (j := 11) (want := true) rfl (by kernel_rfl) (fun K hK => ?_)); go_simp; with_reducible refine hK _ ?_; clear hK K
                (with_reducible refine R.wpStill_yes (j := 11) (want := true) rfl (by kernel_rfl) (fun K hK => ?_)); go_simp; with_reducible refine hK _ ?_; clear hK K
                (with_reducible refine R.wpStill_yes (j := 11) (want := true) rfl (by kernel_rfl) (fun K hK => ?_)); go_simp; with_reducible refine hK _ ?_; clear hK K
                (with_reducible refine R.wpStill_yes (j := 11) (want := true) rfl (by kernel_rfl) (fun K hK => ?_)); go_simp; with_reducible refine hK _ ?_; clear hK K
                (with_reducible refine R.wpStill_yes (j := 11) (want := true) rfl (by kernel_rfl) (fun K hK => ?_)); go_simp; with_reducible refine hK _ ?_; clear hK K
                (with_reducible refine R.wpStill_yes (j := 11) (want := true) rfl (by kernel_rfl) (fun K hK => ?_)); go_simp; with_reducible refine hK _ ?_; clear hK K
                (with_reducible refine R.wpStill_plain rfl (fun K hK => ?_)); go_simp; with_reducible refine hK _ ?_; clear hK K
                exact wpStill_nil rfl
              case hC =>
                refine R.wpSeq_nil ?_
                go_wp2_with fail
                go_roundg k1_
                case measure => omega
                case rel => exact ⟨i + 1, by go_num, (by have := hiq.out; show i + 1 + k1_ = arcs.length; omega), all_next hall.out HX'.out HMISS.out, (HKi.out.alloc _).drew⟩
          · have k1' : decide (0 < r) = true := decide_eq_true k1
            have k2' : decide (-1099511627776 < gp) = false := decide_eq_false k2
            have HMISS : Hid (imp gn ⟨p, q, r, e⟩ = false) := HIMP.out.trans (by rw [k1', k2']; rfl)
            apply R.wp_region_text [0, 1, 2, 3, 4, 5, 6, 7, 8, 9, 10, 11, 12, 13, 14, 15, 16, 17, 18, 19, 20, 21, 22, 23, 24, 25, 26] [] 27 (R.Keeps [] (wr.alloc (Obj.cells #[Value.int IntKind.i64 p, Value.int IntKind.i64 q, Value.int IntKind.i64 r, Value.int IntKind.i64 e] 106)))
            case hm => kernel_rfl
            case hB => kernel_rfl
            case hd => rfl
            case hQ => exact fun _ _ _ _ _ h => h
            case hS => exact (R.Keeps.refl _ _).drew
            case hF =>
              intro w' hS
              obtain ⟨z1, z2, z3, z4, z5, z6⟩ := CE.out w' hS
              have HS := Lib.hid hS
              clear hS
              simp only [R.pickC, List.filterMap_cons, List.getElem?_toArray, List.getElem?_cons_zero, List.getElem?_cons_succ, List.filterMap_nil]
              (with_reducible refine R.wpStill_plain rfl (fun K hK => ?_)); go_simp; with_reducible refine hK _ ?_; clear hK K
              (with_reducible refine R.wpStill_plain rfl (fun K hK => ?_)); go_simp; with_reducible refine hK _ ?_; clear hK K
              (with_reducible refine R.wpStill_plain rfl (fun K hK => ?_)); go_simp; with_reducible refine hK _ ?_; clear hK K
              (with_reducible refine R.wpStill_plain rfl (fun K hK => ?_)); go_simp; with_reducible refine hK _ ?_; clear hK K
              (with_reducible refine R.wpStill_yes (j := 3) (want := true) rfl (by kernel_rfl) (fun K hK => ?_)); go_simp; with_reducible refine hK _ ?_; clear hK K
              (with_reducible refine R.wpStill_yes (j := 3) (want := true) rfl (by kernel_rfl) (fun K hK => ?_)); go_simp; with_reducible refine hK _ ?_; clear hK K
              (with_reducible refine R.wpStill_yes (j := 3) (want := true) rfl (by kernel_rfl) (fun K hK => ?_)); go_simp; with_reducible refine hK _ ?_; clear hK K
              (with_reducible refine R.wpStill_yes (j := 3) (want := true) rfl (by kernel_rfl) (fun K hK => ?_)); go_simp; with_reducible refine hK _ ?_; clear hK K
              (with_reducible refine R.wpStill_yes (j := 3) (want := true) rfl (by kernel_rfl) (fun K hK => ?_)); go_simp; with_reducible refine hK _ ?_; clear hK K
              (with_reducible refine R.wpStill_yes (j := 3) (want := true) rfl (by kernel_rfl) (fun K hK => ?_)); go_simp; with_reducible refine hK _ ?_; clear hK K
              (with_reducible refine R.wpStill_plain rfl (fun K hK => ?_)); go_simp; with_reducible refine hK _ ?_; clear hK K
              (with_reducible refine R.wpStill_plain rfl (fun K hK => ?_)); go_simp; with_reducible refine hK _ ?_; clear hK K
              (with_reducible refine R.wpStill_no (j := 11) (want := true) (b := false) rfl (by kernel_rfl) R.bft ?_); simp only [Act.put, List.setIfInBounds_toArray, List.set_cons_zero, List.set_cons_succ]
              (with_reducible refine R.wpStill_no (j := 11) (want := true) (b := false) rfl (by kernel_rfl) R.bft ?_); simp only [Act.put, List.setIfInBounds_toArray, List.set_cons_zero, List.set_cons_succ]
              (with_reducible refine R.wpStill_no (j := 11) (want := true) (b := false) rfl (by kernel_rfl) R.bft ?_); simp only [Act.put, List.setIfInBounds_toArray, List.set_cons_zero, List.set_cons_succ]
              (with_reducible refine R.wpStill_no (j := 11) (want := true) (b := false) rfl (by kernel_rfl) R.bft ?_); simp only [Act.put, List.setIfInBounds_toArray, List.set_cons_zero, List.set_cons_succ]
              (with_reducible refine R.wpStill_no (j := 11) (want := true) (b := false) rfl (by kernel_rfl) R.bft ?_); simp only [Act.put, List.setIfInBounds_toArray, List.set_cons_zero, List.set_cons_succ]
              (with_reducible refine R.wpStill_no (j := 11) (want := true) (b := false) rfl (by kernel_rfl) R.bft ?_); simp only [Act.put, List.setIfInBounds_toArray, List.set_cons_zero, List.set_cons_succ]
              (with_reducible refine R.wpStill_no (j := 11) (want := true) (b := false) rfl (by kernel_rfl) R.bft ?_); simp only [Act.put, List.setIfInBounds_toArray, List.set_cons_zero, List.set_cons_succ]
              (with_reducible refine R.wpStill_no (j := 11) (want := true) (b := false) rfl (by kernel_rfl) R.bft ?_); simp only [Act.put, List.setIfInBounds_toArray, List.set_cons_zero, List.set_cons_succ]
              (with_reducible refine R.wpStill_no (j := 11) (want := true) (b := false) rfl (by kernel_rfl) R.bft ?_); simp only [Act.put, List.setIfInBounds_toArray, List.set_cons_zero, List.set_cons_succ]
              (with_reducible refine R.wpStill_no (j := 11) (want := true) (b := false) rfl (by kernel_rfl) R.bft ?_); simp only [Act.put, List.setIfInBounds_toArray, List.set_cons_zero, List.set_cons_succ]
              (with_reducible refine R.wpStill_no (j := 11) (want := true) (b := false) rfl (by kernel_rfl) R.bft ?_); simp only [Act.put, List.setIfInBounds_toArray, List.set_cons_zero, List.set_cons_succ]
              (with_reducible refine R.wpStill_no (j := 11) (want := true) (b := false) rfl (by kernel_rfl) R.bft ?_); simp only [Act.put, List.setIfInBounds_toArray, List.set_cons_zero, List.set_cons_succ]
              (with_reducible refine R.wpStill_no (j := 11) (want := true) (b := false) rfl (by kernel_rfl) R.bft ?_); simp only [Act.put, List.setIfInBounds_toArray, List.set_cons_zero, List.set_cons_succ]
              (with_reducible refine R.wpStill_no (j := 11) (want := true) (b := false) rfl (by kernel_rfl) R.bft ?_); simp only [Act.put, List.setIfInBounds_toArray, List.set_cons_zero, List.set_cons_succ]
              (with_reducible refine R.wpStill_plain rfl (fun K hK => ?_)); go_simp; with_reducible refine hK _ ?_; clear hK K
              exact wpStill_nil rfl
            case hC =>
              refine R.wpSeq_nil ?_
              go_wp2_with fail
              go_roundg k1_
              case measure => omega
              case rel => exact ⟨i + 1, by go_num, (by have := hiq.out; show i + 1 + k1_ = arcs.length; omega), all_next hall.out HX'.out HMISS.out, (HKi.out.alloc _).drew⟩
        · have k1' : decide (0 < r) = false := decide_eq_false k1
          have HMISS : Hid (imp gn ⟨p, q, r, e⟩ = false) := HIMP.out.trans (by rw [k1']; rfl)
          apply R.wp_region_text [0, 1, 2, 3, 4, 5, 6, 7, 8, 9, 10, 11, 12, 13, 14, 15, 16, 17, 18, 19, 20, 21, 22, 23, 24, 25, 26] [] 27 (R.Keeps [] (wr.alloc (Obj.cells #[Value.int IntKind.i64 p, Value.int IntKind.i64 q, Value.int IntKind.i64 r, Value.int IntKind.i64 e] 106)))
          case hm => kernel_rfl
          case hB => kernel_rfl
          case hd => rfl
          case hQ => exact fun _ _ _ _ _ h => h
          case hS => exact (R.Keeps.refl _ _).drew
          case hF =>
            intro w' hS
            obtain ⟨z1, z2, z3, z4, z5, z6⟩ := CE.out w' hS
            have HS := Lib.hid hS
            clear hS
            simp only [R.pickC, List.filterMap_cons, List.getElem?_toArray, List.getElem?_cons_zero, List.getElem?_cons_succ, List.filterMap_nil]
            (with_reducible refine R.wpStill_plain rfl (fun K hK => ?_)); go_simp; with_reducible refine hK _ ?_; clear hK K
            (with_reducible refine R.wpStill_plain rfl (fun K hK => ?_)); go_simp; with_reducible refine hK _ ?_; clear hK K
            (with_reducible refine R.wpStill_plain rfl (fun K hK => ?_)); go_simp; with_reducible refine hK _ ?_; clear hK K
            (with_reducible refine R.wpStill_plain rfl (fun K hK => ?_)); go_simp; with_reducible refine hK _ ?_; clear hK K
            (with_reducible refine R.wpStill_no (j := 3) (want := true) (b := false) rfl (by kernel_rfl) R.bft ?_); simp only [Act.put, List.setIfInBounds_toArray, List.set_cons_zero, List.set_cons_succ]
            (with_reducible refine R.wpStill_no (j := 3) (want := true) (b := false) rfl (by kernel_rfl) R.bft ?_); simp only [Act.put, List.setIfInBounds_toArray, List.set_cons_zero, List.set_cons_succ]
            (with_reducible refine R.wpStill_no (j := 3) (want := true) (b := false) rfl (by kernel_rfl) R.bft ?_); simp only [Act.put, List.setIfInBounds_toArray, List.set_cons_zero, List.set_cons_succ]
            (with_reducible refine R.wpStill_no (j := 3) (want := true) (b := false) rfl (by kernel_rfl) R.bft ?_); simp only [Act.put, List.setIfInBounds_toArray, List.set_cons_zero, List.set_cons_succ]
            (with_reducible refine R.wpStill_no (j := 3) (want := true) (b := false) rfl (by kernel_rfl) R.bft ?_); simp only [Act.put, List.setIfInBounds_toArray, List.set_cons_zero, List.set_cons_succ]
            (with_reducible refine R.wpStill_no (j := 3) (want := true) (b := false) rfl (by kernel_rfl) R.bft ?_); simp only [Act.put, List.setIfInBounds_toArray, List.set_cons_zero, List.set_cons_succ]
            (with_reducible refine R.wpStill_plain rfl (fun K hK => ?_)); go_simp; with_reducible refine hK _ ?_; clear hK K
            (with_reducible refine R.wpStill_plain rfl (fun K hK => ?_)); go_simp; with_reducible refine hK _ ?_; clear hK K
            (with_reducible refine R.wpStill_no (j := 11) (want := true) (b := false) rfl (by kernel_rfl) R.bft ?_); simp only [Act.put, List.setIfInBounds_toArray, List.set_cons_zero, List.set_cons_succ]
            (with_reducible refine R.wpStill_no (j := 11) (want := true) (b := false) rfl (by kernel_rfl) R.bft ?_); simp only [Act.put, List.setIfInBounds_toArray, List.set_cons_zero, List.set_cons_succ]
            (with_reducible refine R.wpStill_no (j := 11) (want := true) (b := false) rfl (by kernel_rfl) R.bft ?_); simp only [Act.put, List.setIfInBounds_toArray, List.set_cons_zero, List.set_cons_succ]
            (with_reducible refine R.wpStill_no (j := 11) (want := true) (b := false) rfl (by kernel_rfl) R.bft ?_); simp only [Act.put, List.setIfInBounds_toArray, List.set_cons_zero, List.set_cons_succ]
            (with_reducible refine R.wpStill_no (j := 11) (want := true) (b := false) rfl (by kernel_rfl) R.bft ?_); simp only [Act.put, List.setIfInBounds_toArray, List.set_cons_zero, List.set_cons_succ]
            (with_reducible refine R.wpStill_no (j := 11) (want := true) (b := false) rfl (by kernel_rfl) R.bft ?_); simp only [Act.put, List.setIfInBounds_toArray, List.set_cons_zero, List.set_cons_succ]
            (with_reducible refine R.wpStill_no (j := 11) (want := true) (b := false) rfl (by kernel_rfl) R.bft ?_); simp only [Act.put, List.setIfInBounds_toArray, List.set_cons_zero, List.set_cons_succ]
            (with_reducible refine R.wpStill_no (j := 11) (want := true) (b := false) rfl (by kernel_rfl) R.bft ?_); simp only [Act.put, List.setIfInBounds_toArray, List.set_cons_zero, List.set_cons_succ]
            (with_reducible refine R.wpStill_no (j := 11) (want := true) (b := false) rfl (by kernel_rfl) R.bft ?_); simp only [Act.put, List.setIfInBounds_toArray, List.set_cons_zero, List.set_cons_succ]
            (with_reducible refine R.wpStill_no (j := 11) (want := true) (b := false) rfl (by kernel_rfl) R.bft ?_); simp only [Act.put, List.setIfInBounds_toArray, List.set_cons_zero, List.set_cons_succ]
            (with_reducible refine R.wpStill_no (j := 11) (want := true) (b := false) rfl (by kernel_rfl) R.bft ?_); simp only [Act.put, List.setIfInBounds_toArray, List.set_cons_zero, List.set_cons_succ]
            (with_reducible refine R.wpStill_no (j := 11) (want := true) (b := false) rfl (by kernel_rfl) R.bft ?_); simp only [Act.put, List.setIfInBounds_toArray, List.set_cons_zero, List.set_cons_succ]
            (with_reducible refine R.wpStill_no (j := 11) (want := true) (b := false) rfl (by kernel_rfl) R.bft ?_); simp only [Act.put, List.setIfInBounds_toArray, List.set_cons_zero, List.set_cons_succ]
            (with_reducible refine R.wpStill_no (j := 11) (want := true) (b := false) rfl (by kernel_rfl) R.bft ?_); simp only [Act.put, List.setIfInBounds_toArray, List.set_cons_zero, List.set_cons_succ]
            (with_reducible refine R.wpStill_plain rfl (fun K hK => ?_)); go_simp; with_reducible refine hK _ ?_; clear hK K
            exact wpStill_nil rfl
          case hC =>
            refine R.wpSeq_nil ?_
            go_wp2_with fail
            go_roundg k1_
            case measure => omega
            case rel => exact ⟨i + 1, by go_num, (by have := hiq.out; show i + 1 + k1_ = arcs.length; omega), all_next hall.out HX'.out HMISS.out, (HKi.out.alloc _).drew⟩
      · obtain rfl : i = arcs.length := by have := hiq.out; omega
        have HDONE := relaxF_done HX.out (by simpa using hall.out)
        have HKA := HK.out.trans hKi (fun k h => by simp at h)
        have HDN := Lib.hid HDONE
        clear HDONE
        go_wp2_with fail
        rw [Exit.noGoto_ret]
        go_ret
        have e2 := HDN.out
        obtain ⟨rfl, rfl⟩ := Prod.mk.injEq _ _ _ _ ▸ e2
        exact ⟨rfl, hBn.keep hKi (by simp), hGn.keep hKi (by simp), HKA⟩
end Go.Proofs.Ytpjobcnfjpbaeaa.A

set_option linter.unusedVariables false
set_option linter.unusedSimpArgs false
namespace Go.Proofs.Ytpjobcnfjpbaeaa.A
open Go.RowKit Go.Proofs.YtpjobcnfjpbaeaaW.PrintWords Go.Proofs.YtpjobcnfjpbaeaaW.PrintLast Go.Proofs.YtpjobcnfjpbaeaaW.PrintMore
open Go.Proofs.Ytpjobcnfjpbaeaa.PA
def newK (rooms : List Int) : Nat → List S106
  | 0 => []
  | k + 1 => addF (newK rooms k) k (k + 1) 1048576 0 (rooms.getD k 0)
theorem newK_len (rooms : List Int) (k : Nat) : (newK rooms k).length = 2 * k := by
  induction k with
  | zero => rfl
  | succ k ih => simp [newK, addF, ih]; omega
theorem FlowAt.lt {w : World} {base b : Nat} {n : Int} {arcs : List S106} (h : FlowAt w base b n arcs) : b < w.heap.size := by
  obtain ⟨_, v, h, _⟩ := h
  rcases Nat.lt_or_ge b w.heap.size with h' | h'
  · exact h'
  · rw [Array.getElem?_eq_none h'] at h; cases h
set_option maxRecDepth 100000 in
set_option maxHeartbeats 800000 in
theorem newFlow_c (A : Option Addr) (c : Nat) (rooms : List Int) (w : World) (hr : Kd.C (Kd.int .i64) w A rooms.length rooms) (hlen : rooms.length ≤ 1000) :
    Calls Try.prog 76 #[.slice A rooms.length c] w fun e w' =>
      e = .returned (.pointer (some ⟨w.heap.size, 0, none⟩)) ∧ FlowAt w' w.heap.size w.heap.size rooms.length (newK rooms rooms.length) ∧ Below w.heap.size w w' := by
  have HR := Lib.hid hr
  clear hr
  go_enter Try.func76, Try.ntmps76
  go_wp2_with fail
  go_loopw [12] (fun v wr => ∃ k : Nat, v = .int .i64 (k : Int) ∧ k ≤ rooms.length ∧ Hid (FlowAt wr w.heap.size w.heap.size rooms.length (newK rooms k)) ∧ Below w.heap.size w wr) (fun v _ => rooms.length - (intOf v).toNat)
  case atStart =>
    refine ⟨0, rfl, Nat.zero_le _, ⟨Nat.le_refl _, .slice none 0 0, heap_alloc_new _ _, by simp [Value.ownBlock], own_nil _ _ _ _⟩, (Below.refl _ _).alloc (Nat.le_refl _) _⟩
  case round =>
    obtain ⟨k, rfl, hk, HF, hB⟩ := hrel
    by_cases hlt : k < rooms.length
    · obtain ⟨ad, x, eA, HX, h0⟩ := at_int HR.out hB k hlt
      cases eA
      have hc := add_c w.heap.size w.heap.size rooms.length (newK rooms k) k (k + 1) 1048576 0 x wr HF.out (by rw [newK_len]; omega)
      have HC := Lib.hid hc
      clear hc
      go_wp2_with ((with_reducible refine HC.out.mono ?_); rintro e w' ⟨rfl, hF', hB', _⟩)
      go_roundw
      case rel => exact ⟨k + 1, by go_num, by omega, by have : rooms.getD k 0 = x := (by have := HX.out; simp [this]); rw [Hid, newK, this]; exact hF', hB.trans hB'⟩
      case measure => simp [intOf]; omega
    · obtain rfl : k = rooms.length := by omega
      go_wp2_with fail
      go_ret
      exact ⟨rfl, HF.out, hB⟩
end Go.Proofs.Ytpjobcnfjpbaeaa.A

set_option linter.unusedVariables false
set_option linter.unusedSimpArgs false
namespace Go.Proofs.Ytpjobcnfjpbaeaa.A
open Go.RowKit Go.Proofs.YtpjobcnfjpbaeaaW.PrintWords Go.Proofs.YtpjobcnfjpbaeaaW.PrintLast Go.Proofs.YtpjobcnfjpbaeaaW.PrintMore
open Go.Proofs.Ytpjobcnfjpbaeaa.PA
def twin (i : Nat) : Nat := if i % 2 = 0 then i + 1 else i - 1
theorem twin_xor (i : Nat) : i ^^^ 1 = twin i := by
  unfold twin
  apply Nat.eq_of_testBit_eq
  intro j
  rw [Nat.testBit_xor]
  cases j with
  | zero =>
    simp only [Nat.testBit_zero]
    split <;> rename_i h
    · simp [h]; omega
    · have : i % 2 = 1 := by omega
      simp [this]; omega
  | succ j =>
    have h1 : Nat.testBit 1 (j + 1) = false := by simp [Nat.testBit_succ]
    rw [h1, Bool.xor_false, Nat.testBit_succ, Nat.testBit_succ]
    congr 1
    split <;> omega
theorem xor_one (i : Nat) (hi : i < 1000000) : bits BinOp.xor IntKind.i64 (i : Int) 1 = (twin i : Int) := by
  have e : (BitVec.ofInt IntKind.i64.bits (i : Int) ^^^ BitVec.ofInt IntKind.i64.bits 1).toNat = twin i := by
    rw [BitVec.toNat_xor, ← twin_xor]
    have h1 : (BitVec.ofInt IntKind.i64.bits (i : Int)).toNat = i := by
      rw [BitVec.toNat_ofInt]
      show ((i : Int) % ((2 ^ 64 : Nat) : Int)).toNat = i
      have h64 : ((2 ^ 64 : Nat) : Int) = 18446744073709551616 := by decide
      have : (i : Int) % ((2 ^ 64 : Nat) : Int) = i := Int.emod_eq_of_lt (by omega) (by rw [h64]; omega)
      rw [this]; rfl
    have h2 : (BitVec.ofInt IntKind.i64.bits 1).toNat = 1 := by decide
    rw [h1, h2]
  unfold bits
  simp only
  rw [e, i64_w]
  unfold wrap64
  have : twin i ≤ i + 1 := by unfold twin; split <;> omega
  omega
def send2 (arcs : List S106) (i : Nat) : Option (List S106) := match arcs[i]?, arcs[twin i]? with
  | some x, some y => some ((arcs.set i ⟨x.f0, x.f1, wrap64 (x.f2 - 1), x.f3⟩).set (twin i) ⟨y.f0, y.f1, wrap64 (y.f2 + 1), y.f3⟩)
  | _, _ => none
def wayF : Nat → List S106 → List Int → Int → Int → Option (List S106)
  | 0, _, _, _, _ => none
  | k + 1, arcs, b, v, t => if v = t then some arcs else
    if 0 ≤ v ∧ v < b.length ∧ 0 ≤ gt0 b v then (send2 arcs (gt0 b v).toNat).bind fun arcs1 => match arcs1[(gt0 b v).toNat]? with
      | some a => wayF k arcs1 b a.f0 t
      | none => none
    else none
def takeF (k n : Nat) (arcs : List S106) (f t p : Int) : Option (List S106) :=
  (relaxF k arcs ((List.replicate (n + 1) (-1099511627776)).set t.toNat 0) (List.replicate (n + 1) 0)).bind fun gb =>
    if gt0 gb.1 f = -1099511627776 then some (addF arcs f t 1 p 0) else
    if IntKind.i64.wrap (gt0 gb.1 f + p) ≤ 0 then some (addF arcs f t 1 p 0) else
    (wayF k (addF arcs f t 1 p 0) gb.2 f t).bind fun arcs1 => send2 arcs1 arcs.length
end Go.Proofs.Ytpjobcnfjpbaeaa.A

set_option linter.unusedVariables false
set_option linter.unusedSimpArgs false
namespace Go.Proofs.Ytpjobcnfjpbaeaa.A
open Go.RowKit Go.Proofs.YtpjobcnfjpbaeaaW.PrintWords Go.Proofs.YtpjobcnfjpbaeaaW.PrintLast Go.Proofs.YtpjobcnfjpbaeaaW.PrintMore
open Go.Proofs.Ytpjobcnfjpbaeaa.PA
def filled (m k : Nat) (x : Int) : List Int := List.replicate k x ++ List.replicate (m - k) 0
theorem filled_len {m k : Nat} (x : Int) (h : k ≤ m) : (filled m k x).length = m := by simp [filled]; omega
theorem filled_set {m k : Nat} (x : Int) (h : k < m) : (filled m k x).set k x = filled m (k + 1) x := by
  unfold filled
  rw [List.set_append_right _ _ (by simp)]
  obtain ⟨d, hd⟩ : ∃ d, m - k = d + 1 := ⟨m - k - 1, by omega⟩
  have hd' : m - (k + 1) = d := by omega
  rw [hd, hd', List.length_replicate, Nat.sub_self, List.replicate_succ, List.set_cons_zero]
  simp [List.replicate_succ', List.append_assoc]
theorem FlowAt.keep {w w' : World} {base b : Nat} {n : Int} {arcs : List S106} {X : List Nat} (h : FlowAt w base b n arcs) (hk : R.Keeps X w w') (hX : ∀ k, k ∈ X → k ≠ b ∧ ∀ v, w.heap[b]? = some (.cells #[.int .i64 n, v] 109 (0, 0)) → v.ownBlock ≠ some k) : FlowAt w' base b n arcs := by
  have hlt := h.lt
  obtain ⟨hb, v, hblk, hne, hown⟩ := h
  refine ⟨hb, v, ?_, hne, own_move hown (fun k hk' => hk.block k (hown.lt k hk').2 (fun hx => (hX k hx).2 v hblk hk'))⟩
  rw [hk.block b hlt (fun hx => (hX b hx).1 rfl), hblk]
theorem FlowAt.apart_new {w : World} {base b : Nat} {n : Int} {arcs : List S106} (h : FlowAt w base b n arcs) {k : Nat} (hk : w.heap.size ≤ k) : k ≠ b ∧ ∀ v, w.heap[b]? = some (.cells #[.int .i64 n, v] 109 (0, 0)) → v.ownBlock ≠ some k := by
  have hlt := h.lt
  obtain ⟨hb, v, hblk, hne, hown⟩ := h
  refine ⟨by omega, fun v' hv' e => ?_⟩
  rw [hblk] at hv'
  simp at hv'
  subst hv'
  have := (hown.lt k e).2
  omega
theorem relaxF_len {k : Nat} {arcs : List S106} {g b g1 b1 : List Int} {m : Nat} (h : relaxF k arcs g b = some (g1, b1)) (hg : g.length = m) (hb : b.length = m) : g1.length = m ∧ b1.length = m := by
  induction k generalizing g b with
  | zero => simp [relaxF] at h
  | succ k ih =>
    unfold relaxF at h
    split at h
    · simp at h; obtain ⟨rfl, rfl⟩ := h; exact ⟨hg, hb⟩
    · exact ih h (by simpa using hg) (by simpa using hb)
set_option maxRecDepth 100000 in
set_option maxHeartbeats 3200000 in
theorem take_c (base b k n : Nat) (arcs arcs' : List S106) (f t : Nat) (p : Int) (w : World) (hF : FlowAt w base b n arcs) (hl : 0 < arcs.length) (hlen : arcs.length ≤ 10000) (hn : n ≤ 1000)
    (hI : ArcsIn (n + 1) arcs) (hft : f < t) (htn : t ≤ n) (h : takeF k n arcs f t p = some arcs') :
    Calls Try.prog 77 #[.pointer (some ⟨b, 0, none⟩), .agg #[.int .i64 f, .int .i64 t, .int .i64 p]] w fun e w' =>
      e = .returned (.tuple #[]) ∧ FlowAt w' base b n arcs' ∧ Below base w w' := by
  have hbs := hF.lt
  have hbase : base ≤ b := hF.1
  have hc0 : w.cell? ⟨b, 0, none⟩ = some (.int .i64 n) := by
    obtain ⟨_, v, hblk, _⟩ := hF
    simp [World.cell?, hblk]
  have hmk := make_ints (n + 1) (by omega)
  rw [show ((n + 1 : Nat) : Int) = (n : Int) + 1 by omega] at hmk
  have HF := Lib.hid hF
  have HI := Lib.hid hI
  have H := Lib.hid h
  clear hF hI h
  have hK1 : R.Keeps [] w ((w.alloc (Obj.cells #[Value.int IntKind.i64 f, Value.int IntKind.i64 t, Value.int IntKind.i64 p] 47)).alloc (Obj.cells (ints (List.replicate (n + 1) 0)).toArray 3)) := ((R.Keeps.refl _ _).alloc _).alloc _
  have hR1 : IntRow ((w.alloc (Obj.cells #[Value.int IntKind.i64 f, Value.int IntKind.i64 t, Value.int IntKind.i64 p] 47)).alloc (Obj.cells (ints (List.replicate (n + 1) 0)).toArray 3)) (w.heap.size + 1) (filled (n + 1) 0 (-1099511627776)) := by
    have := IntRow.mk (w.alloc (Obj.cells #[Value.int IntKind.i64 f, Value.int IntKind.i64 t, Value.int IntKind.i64 p] 47)) (List.replicate (n + 1) 0)
    simpa [filled] using this
  have hB1 : ((w.alloc (Obj.cells #[Value.int IntKind.i64 f, Value.int IntKind.i64 t, Value.int IntKind.i64 p] 47)).alloc (Obj.cells (ints (List.replicate (n + 1) 0)).toArray 3)).heap[w.heap.size]? = some (.cells #[Value.int IntKind.i64 f, Value.int IntKind.i64 t, Value.int IntKind.i64 p] 47 (0, 0)) := by
    rw [Below.heap_alloc _ _ _ (by simp), heap_alloc_new]
  go_enter Try.func77, Try.ntmps77
  go_wp2_with fail
  go_loopw [17] (fun v wr => ∃ k : Nat, v = .int .i64 (k : Int) ∧ k ≤ n + 1 ∧ R.Keeps [] w wr ∧ w.heap.size + 2 ≤ wr.heap.size ∧ IntRow wr (w.heap.size + 1) (filled (n + 1) k (-1099511627776)) ∧ Hid (wr.heap[w.heap.size]? = some (.cells #[Value.int IntKind.i64 f, Value.int IntKind.i64 t, Value.int IntKind.i64 p] 47 (0, 0)))) (fun v _ => n + 1 - (intOf v).toNat)
  case atStart => exact ⟨0, rfl, Nat.zero_le _, hK1, by simp, hR1, hB1⟩
  case round =>
    obtain ⟨q, rfl, hq, hK, hszr, hR, hBk⟩ := hrel
    clear hK1 hR1 hB1
    by_cases hlt : q < n + 1
    · have e1 := hR.cell (i := q) (x := (filled (n + 1) q (-1099511627776))[q]'(by rw [filled_len _ hq]; omega)) (List.getElem?_eq_getElem _)
      have e2 := hR.free q
      have hlt' : (q : Int) < (n : Int) + 1 := by omega
      go_wp2_with fail
      go_roundw
      case rel =>
        refine ⟨q + 1, by go_num, by omega, hK.setCell (p := ⟨w.heap.size + 1, q, none⟩) (fun h => by simp at h; omega) _, by simp [World.setCell]; omega, ?_, ?_⟩
        · rw [← filled_set _ hlt]; exact hR.set q _
        · rw [Hid, Below.heap_setCell _ _ _ _ (by simp)]; exact hBk
      case measure => simp [intOf]; omega
    · obtain rfl : q = n + 1 := by omega
      have hfar : filled (n + 1) (n + 1) (-1099511627776) = List.replicate (n + 1) (-1099511627776) := by simp [filled]
      rw [hfar] at hR
      obtain ⟨gb, hrel, hrest⟩ := Option.bind_eq_some_iff.1 H.out
      obtain ⟨gR, bR⟩ := gb
      simp only at hrest
      have hRl : gR.length = n + 1 ∧ bR.length = n + 1 := relaxF_len hrel (by simp) (by simp)
      have e0 : wr.cell? ⟨w.heap.size, 0, none⟩ = some (.int .i64 f) := by simp [World.cell?, hBk.out]
      have e1 : wr.cell? ⟨w.heap.size, 1, none⟩ = some (.int .i64 t) := by simp [World.cell?, hBk.out]
      have e2 := hR.cell (i := t) (x := -1099511627776) (by rw [List.getElem?_replicate, if_pos (by omega)])
      have e3 := hR.free t
      have ht' : (t : Int) < (n : Int) + 1 := by omega
      have hF1 : FlowAt (wr.setCell ⟨w.heap.size + 1, t, none⟩ (.int .i64 0)) base b n arcs := by
        refine HF.out.keep (X := [w.heap.size + 1]) (R.Keeps.setCell (hK.mono (Y := [w.heap.size + 1]) (fun k hk => by simp at hk)) (fun _ => by simp) _) (fun k hk => HF.out.apart_new (by simp at hk; omega))
      have hR2 := hR.set t 0
      have hrc := relax_c base b (w.heap.size + 1) (n + 1) k n arcs ((List.replicate (n + 1) (-1099511627776)).set t 0) gR bR _ hF1 hl (by omega) HI.out (by simp) (by omega) hR2
        (fun v hv => have hz := HF.out.apart_new (k := w.heap.size + 1) (by omega); ⟨hz.1, hz.2 v (by rw [← hv, Below.heap_setCell _ _ _ _ (by show b ≠ w.heap.size + 1; omega)]; exact (hK.block b hbs (by simp)).symm)⟩) hrel
      have hBk2 : (wr.setCell ⟨w.heap.size + 1, t, none⟩ (.int .i64 0)).heap[w.heap.size]? = some (.cells #[Value.int IntKind.i64 f, Value.int IntKind.i64 t, Value.int IntKind.i64 p] 47 (0, 0)) := by
        rw [Below.heap_setCell _ _ _ _ (by show w.heap.size ≠ w.heap.size + 1; omega)]; exact hBk.out
      have hsz2 : (wr.setCell ⟨w.heap.size + 1, t, none⟩ (.int .i64 0)).heap.size = wr.heap.size := by simp [World.setCell]
      rw [hsz2] at hrc
      have hBl2 : Below base w (wr.setCell ⟨w.heap.size + 1, t, none⟩ (.int .i64 0)) :=
        (hK.to_below (by omega) (fun k hk => by simp at hk)).setCell (p := ⟨w.heap.size + 1, t, none⟩) (by show base ≤ w.heap.size + 1; omega) _
      have HRC := Lib.hid hrc
      have HF1 := Lib.hid hF1
      have HREST := Lib.hid hrest
      have HBK2 := Lib.hid hBk2
      clear hrc hF1 hrest hrel hBk hR hR2 hfar hBk2
      go_wp2_with fail
      refine HRC.out.mono ?_
      rintro e w3 ⟨rfl, hb3, hg3, hK3⟩
      have hF3 : FlowAt w3 base b n arcs := HF1.out.keep hK3 (fun k hk => by
        simp only [List.mem_singleton] at hk
        subst hk
        have hz := HF.out.apart_new (k := w.heap.size + 1) (by omega)
        exact ⟨hz.1, fun v hv => hz.2 v (by rw [← hv, Below.heap_setCell _ _ _ _ (by show b ≠ w.heap.size + 1; omega)]; exact (hK.block b hbs (by simp)).symm)⟩)
      have hbk3 : w3.heap[w.heap.size]? = some (.cells #[Value.int IntKind.i64 f, Value.int IntKind.i64 t, Value.int IntKind.i64 p] 47 (0, 0)) := by
        rw [hK3.block _ (by rw [hsz2]; omega) (by simp)]; exact HBK2.out
      have a0 : w3.cell? ⟨w.heap.size, 0, none⟩ = some (.int .i64 f) := by simp [World.cell?, hbk3]
      have a1 : w3.cell? ⟨w.heap.size, 1, none⟩ = some (.int .i64 t) := by simp [World.cell?, hbk3]
      have a2 : w3.cell? ⟨w.heap.size, 2, none⟩ = some (.int .i64 p) := by simp [World.cell?, hbk3]
      obtain ⟨g, cap, cur, _, hbg, hgb1, hblk, hrow, hc1, hc2, hcs, hct⟩ := hF3.open hl
      have a3 : w3.cell? ⟨b, 1, none⟩ = some (.slice (some ⟨g, 0, none⟩) arcs.length cap) := by simp [World.cell?, hblk]
      have hadd := add_c base b n arcs f t 1 p 0 w3 hF3 (by omega)
      have HADD := Lib.hid hadd
      have HF3 := Lib.hid hF3
      have HBK3 := Lib.hid hbk3
      have HBLK := Lib.hid hblk
      have HG3 := Lib.hid hg3
      have HB3 := Lib.hid hb3
      clear hadd hF3 hbk3 hblk hrow hcs hct hg3 hb3 e0 e1 e2 e3
      go_wp2_with fail
      refine HADD.out.mono ?_
      rintro e w4 ⟨rfl, hF4, hB4, hA4⟩
      have hb3w : w3.heap[b]? = w.heap[b]? := by
        rw [hK3.block b (by rw [hsz2]; omega) (by simp; omega), Below.heap_setCell _ _ _ _ (by show b ≠ w.heap.size + 1; omega)]; exact hK.block b hbs (by simp)
      have hs3 : wr.heap.size < w3.heap.size := HB3.out.lt
      have hap : ∀ k, w.heap.size ≤ k → k < w3.heap.size → FlowApart w3 b n k := fun k h1 h2 =>
        ⟨h2, (HF.out.apart_new h1).1, fun v hv => (HF.out.apart_new h1).2 v (by rw [← hb3w]; exact hv)⟩
      have hp0 := hA4 _ (hap w.heap.size (Nat.le_refl _) (by omega))
      have hp1 := hA4 _ (hap (w.heap.size + 1) (by omega) (by omega))
      have hp2 := hA4 _ (hap wr.heap.size (by omega) hs3)
      have hbk4 : w4.heap[w.heap.size]? = some (.cells #[Value.int IntKind.i64 f, Value.int IntKind.i64 t, Value.int IntKind.i64 p] 47 (0, 0)) := by rw [hp0.1]; exact HBK3.out
      have hg4 : IntRow w4 (w.heap.size + 1) gR := by unfold IntRow; rw [hp1.1]; exact HG3.out
      have hb4 : IntRow w4 wr.heap.size bR := by unfold IntRow; rw [hp2.1]; exact HB3.out
      obtain ⟨gf, hgf⟩ : ∃ v, gR[f]? = some v := ⟨_, List.getElem?_eq_getElem (by rw [hRl.1]; omega)⟩
      have hgt : gt0 gR (f : Int) = gf := by simp [gt0, hgf]
      have hre := HREST.out
      rw [hgt] at hre
      have cells : ∀ w', R.Keeps [] w4 w' → w'.cell? ⟨w.heap.size, 0, none⟩ = some (.int .i64 f) ∧ w'.cell? ⟨w.heap.size, 2, none⟩ = some (.int .i64 p) ∧ w'.cell? ⟨w.heap.size + 1, f, none⟩ = some (.int .i64 gf) := fun w' h =>
        ⟨h.cell (a := ⟨w.heap.size, 0, none⟩) (by simp [World.cell?, hbk4]) (by simp), h.cell (a := ⟨w.heap.size, 2, none⟩) (by simp [World.cell?, hbk4]) (by simp), (hg4.keep h (by simp)).cell hgf⟩
      have CE := Lib.hid cells
      have HRE := Lib.hid hre
      have HF4 := Lib.hid hF4
      have HBK4 := Lib.hid hbk4
      have HGF := Lib.hid hgf
      have HBW := Lib.hid hb3w
      clear cells hre hF4 hbk4 hgf hgt hb3w a0 a1 a2 a3
      have hf1 : (f : Int) < (n : Int) + 1 := by omega
      have HB4 : Below base w w4 := (hBl2.trans (hK3.to_below (by rw [hsz2]; omega) (fun k hk => by simp at hk; omega))).trans hB4
      go_wp2_with fail
      by_cases k1 : gf = -1099511627776
      · have k1' : (gf == -1099511627776) = true := by simp [k1]
        have hdone : arcs' = addF arcs f t 1 p 0 := by have := HRE.out; rw [if_pos k1] at this; exact (Option.some.inj this).symm
        subst hdone
        clear k1
        apply R.wp_region_text [0, 1, 2, 3, 4, 5, 6, 7, 8, 9, 10, 11, 12, 13, 14, 15, 16] [] 17 (R.Keeps [] w4)
        case hm => kernel_rfl
        case hB => kernel_rfl
        case hd => rfl
        case hQ => exact fun _ _ _ _ _ h => h
        case hS => exact (R.Keeps.refl _ _).drew
        case hF =>
          intro w' hS
          obtain ⟨z1, z2, z3⟩ := CE.out w' hS
          have HS := Lib.hid hS
          clear hS
          simp only [R.pickC, List.filterMap_cons, List.getElem?_toArray, List.getElem?_cons_zero, List.getElem?_cons_succ, List.filterMap_nil]
          (with_reducible refine R.wpStill_plain rfl (fun K hK => ?_)); go_simp; with_reducible refine hK _ ?_; clear hK K
          (with_reducible refine R.wpStill_plain rfl (fun K hK => ?_)); go_simp; with_reducible refine hK _ ?_; clear hK K
          (with_reducible refine R.wpStill_plain rfl (fun K hK => ?_)); go_simp; with_reducible refine hK _ ?_; clear hK K
          (with_reducible refine R.wpStill_plain rfl (fun K hK => ?_)); go_simp; with_reducible refine hK _ ?_; clear hK K
          (with_reducible refine R.wpStill_plain rfl (fun K hK => ?_)); go_simp; with_reducible refine hK _ ?_; clear hK K
          (with_reducible refine R.wpStill_plain rfl (fun K hK => ?_)); go_simp; with_reducible refine hK _ ?_; clear hK K
          (with_reducible refine R.wpStill_plain rfl (fun K hK => ?_)); go_simp; with_reducible refine hK _ ?_; clear hK K
          (with_reducible refine R.wpStill_no (j := 6) (want := false) (b := true) rfl (by kernel_rfl) R.btf ?_); simp only [Act.put, List.setIfInBounds_toArray, List.set_cons_zero, List.set_cons_succ]
          (with_reducible refine R.wpStill_no (j := 6) (want := false) (b := true) rfl (by kernel_rfl) R.btf ?_); simp only [Act.put, List.setIfInBounds_toArray, List.set_cons_zero, List.set_cons_succ]
          (with_reducible refine R.wpStill_no (j := 6) (want := false) (b := true) rfl (by kernel_rfl) R.btf ?_); simp only [Act.put, List.setIfInBounds_toArray, List.set_cons_zero, List.set_cons_succ]
          (with_reducible refine R.wpStill_no (j := 6) (want := false) (b := true) rfl (by kernel_rfl) R.btf ?_); simp only [Act.put, List.setIfInBounds_toArray, List.set_cons_zero, List.set_cons_succ]
          (with_reducible refine R.wpStill_no (j := 6) (want := false) (b := true) rfl (by kernel_rfl) R.btf ?_); simp only [Act.put, List.setIfInBounds_toArray, List.set_cons_zero, List.set_cons_succ]
          (with_reducible refine R.wpStill_no (j := 6) (want := false) (b := true) rfl (by kernel_rfl) R.btf ?_); simp only [Act.put, List.setIfInBounds_toArray, List.set_cons_zero, List.set_cons_succ]
          (with_reducible refine R.wpStill_no (j := 6) (want := false) (b := true) rfl (by kernel_rfl) R.btf ?_); simp only [Act.put, List.setIfInBounds_toArray, List.set_cons_zero, List.set_cons_succ]
          (with_reducible refine R.wpStill_no (j := 6) (want := false) (b := true) rfl (by kernel_rfl) R.btf ?_); simp only [Act.put, List.setIfInBounds_toArray, List.set_cons_zero, List.set_cons_succ]
          (with_reducible refine R.wpStill_no (j := 6) (want := false) (b := true) rfl (by kernel_rfl) R.btf ?_); simp only [Act.put, List.setIfInBounds_toArray, List.set_cons_zero, List.set_cons_succ]
          (with_reducible refine R.wpStill_plain rfl (fun K hK => ?_)); go_simp; with_reducible refine hK _ ?_; clear hK K
          exact wpStill_nil rfl
        case hC =>
          refine R.wpSeq_nil ?_
          go_wp2_with fail
          (try simp only [Exit.inBlock, Exit.then])
          refine bodyPost_ret (results_none rfl _ _ _) rfl ?_
          exact ⟨rfl, HF4.out, HB4.drew⟩
      · have k1' : (gf == -1099511627776) = false := by simp [k1]
        have hre2 := HRE.out
        rw [if_neg k1] at hre2
        clear k1
        by_cases k2 : IntKind.i64.wrap (gf + p) ≤ 0
        · rw [if_pos k2] at hre2
          have k2' : decide (IntKind.i64.wrap (gf + p) ≤ 0) = true := decide_eq_true k2
          have hdone : arcs' = addF arcs f t 1 p 0 := (Option.some.inj hre2).symm
          subst hdone
          clear k2 hre2
          apply R.wp_region_text [0, 1, 2, 3, 4, 5, 6, 7, 8, 9, 10, 11, 12, 13, 14, 15, 16] [] 17 (R.Keeps [] w4)
          case hm => kernel_rfl
          case hB => kernel_rfl
          case hd => rfl
          case hQ => exact fun _ _ _ _ _ h => h
          case hS => exact (R.Keeps.refl _ _).drew
          case hF =>
            intro w' hS
            obtain ⟨z1, z2, z3⟩ := CE.out w' hS
            have HS := Lib.hid hS
            clear hS
            simp only [R.pickC, List.filterMap_cons, List.getElem?_toArray, List.getElem?_cons_zero, List.getElem?_cons_succ, List.filterMap_nil]
            (with_reducible refine R.wpStill_plain rfl (fun K hK => ?_)); go_simp; with_reducible refine hK _ ?_; clear hK K
            (with_reducible refine R.wpStill_plain rfl (fun K hK => ?_)); go_simp; with_reducible refine hK _ ?_; clear hK K
            (with_reducible refine R.wpStill_plain rfl (fun K hK => ?_)); go_simp; with_reducible refine hK _ ?_; clear hK K
            (with_reducible refine R.wpStill_plain rfl (fun K hK => ?_)); go_simp; with_reducible refine hK _ ?_; clear hK K
            (with_reducible refine R.wpStill_plain rfl (fun K hK => ?_)); go_simp; with_reducible refine hK _ ?_; clear hK K
            (with_reducible refine R.wpStill_plain rfl (fun K hK => ?_)); go_simp; with_reducible refine hK _ ?_; clear hK K
            (with_reducible refine R.wpStill_plain rfl (fun K hK => ?_)); go_simp; with_reducible refine hK _ ?_; clear hK K
            (with_reducible refine R.wpStill_yes (j := 6) (want := false) rfl (by kernel_rfl) (fun K hK => ?_)); go_simp; with_reducible refine hK _ ?_; clear hK K
            (with_reducible refine R.wpStill_yes (j := 6) (want := false) rfl (by kernel_rfl) (fun K hK => ?_)); go_simp; with_reducible refine hK _ ?_; clear hK K
            (with_reducible refine R.wpStill_yes (j := 6) (want := false) rfl (by kernel_rfl) (fun K hK => ?_)); go_simp; with_reducible refine hK _ ?_; clear hK K
            (with_reducible refine R.wpStill_yes (j := 6) (want := false) rfl (by kernel_rfl) (fun K hK => ?_)); go_simp; with_reducible refine hK _ ?_; clear hK K
            (with_reducible refine R.wpStill_yes (j := 6) (want := false) rfl (by kernel_rfl) (fun K hK => ?_)); go_simp; with_reducible refine hK _ ?_; clear hK K
            (with_reducible refine R.wpStill_yes (j := 6) (want := false) rfl (by kernel_rfl) (fun K hK => ?_)); go_simp; with_reducible refine hK _ ?_; clear hK K
            (with_reducible refine R.wpStill_yes (j := 6) (want := false) rfl (by kernel_rfl) (fun K hK => ?_)); go_simp; with_reducible refine hK _ ?_; clear hK K
            (with_reducible refine R.wpStill_yes (j := 6) (want := false) rfl (by kernel_rfl) (fun K hK => ?_)); go_simp; with_reducible refine hK _ ?_; clear hK K
            (with_reducible refine R.wpStill_yes (j := 6) (want := false) rfl (by kernel_rfl) (fun K hK => ?_)); go_simp; with_reducible refine hK _ ?_; clear hK K
            (with_reducible refine R.wpStill_plain rfl (fun K hK => ?_)); go_simp; with_reducible refine hK _ ?_; clear hK K
            exact wpStill_nil rfl
          case hC =>
            refine R.wpSeq_nil ?_
            go_wp2_with fail
            (try simp only [Exit.inBlock, Exit.then])
            refine bodyPost_ret (results_none rfl _ _ _) rfl ?_
            exact ⟨rfl, HF4.out, HB4.drew⟩
        · rw [if_neg k2] at hre2
          have k2' : decide (IntKind.i64.wrap (gf + p) ≤ 0) = false := decide_eq_false k2
          obtain ⟨arcsE, hway, hsend⟩ := Option.bind_eq_some_iff.1 hre2
          have HWAY := Lib.hid hway
          have HSEND := Lib.hid hsend
          clear k2 hre2 hway hsend
          have y0 : w4.cell? ⟨w.heap.size, 0, none⟩ = some (.int .i64 f) := by simp [World.cell?, HBK4.out]
          apply R.wp_region_text [0, 1, 2, 3, 4, 5, 6, 7, 8, 9, 10, 11, 12, 13, 14, 15, 16] [] 17 (R.Keeps [] w4)
          case hm => kernel_rfl
          case hB => kernel_rfl
          case hd => rfl
          case hQ => exact fun _ _ _ _ _ h => h
          case hS => exact (R.Keeps.refl _ _).drew
          case hF =>
            intro w' hS
            obtain ⟨z1, z2, z3⟩ := CE.out w' hS
            have HS := Lib.hid hS
            clear hS
            simp only [R.pickC, List.filterMap_cons, List.getElem?_toArray, List.getElem?_cons_zero, List.getElem?_cons_succ, List.filterMap_nil]
            (with_reducible refine R.wpStill_plain rfl (fun K hK => ?_)); go_simp; with_reducible refine hK _ ?_; clear hK K
            (with_reducible refine R.wpStill_plain rfl (fun K hK => ?_)); go_simp; with_reducible refine hK _ ?_; clear hK K
            (with_reducible refine R.wpStill_plain rfl (fun K hK => ?_)); go_simp; with_reducible refine hK _ ?_; clear hK K
            (with_reducible refine R.wpStill_plain rfl (fun K hK => ?_)); go_simp; with_reducible refine hK _ ?_; clear hK K
            (with_reducible refine R.wpStill_plain rfl (fun K hK => ?_)); go_simp; with_reducible refine hK _ ?_; clear hK K
            (with_reducible refine R.wpStill_plain rfl (fun K hK => ?_)); go_simp; with_reducible refine hK _ ?_; clear hK K
            (with_reducible refine R.wpStill_plain rfl (fun K hK => ?_)); go_simp; with_reducible refine hK _ ?_; clear hK K
            (with_reducible refine R.wpStill_yes (j := 6) (want := false) rfl (by kernel_rfl) (fun K hK => ?_)); go_simp; with_reducible refine hK _ ?_; clear hK K
            (with_reducible refine R.wpStill_yes (j := 6) (want := false) rfl (by kernel_rfl) (fun K hK => ?_)); go_simp; with_reducible refine hK _ ?_; clear hK K
            (with_reducible refine R.wpStill_yes (j := 6) (want := false) rfl (by kernel_rfl) (fun K hK => ?_)); go_simp; with_reducible refine hK _ ?_; clear hK K
            (with_reducible refine R.wpStill_yes (j := 6) (want := false) rfl (by kernel_rfl) (fun K hK => ?_)); go_simp; with_reducible refine hK _ ?_; clear hK K
            (with_reducible refine R.wpStill_yes (j := 6) (want := false) rfl (by kernel_rfl) (fun K hK => ?_)); go_simp; with_reducible refine hK _ ?_; clear hK K
            (with_reducible refine R.wpStill_yes (j := 6) (want := false) rfl (by kernel_rfl) (fun K hK => ?_)); go_simp; with_reducible refine hK _ ?_; clear hK K
            (with_reducible refine R.wpStill_yes (j := 6) (want := false) rfl (by kernel_rfl) (fun K hK => ?_)); go_simp; with_reducible refine hK _ ?_; clear hK K
            (with_reducible refine R.wpStill_yes (j := 6) (want := false) rfl (by kernel_rfl) (fun K hK => ?_)); go_simp; with_reducible refine hK _ ?_; clear hK K
            (with_reducible refine R.wpStill_yes (j := 6) (want := false) rfl (by kernel_rfl) (fun K hK => ?_)); go_simp; with_reducible refine hK _ ?_; clear hK K
            (with_reducible refine R.wpStill_plain rfl (fun K hK => ?_)); go_simp; with_reducible refine hK _ ?_; clear hK K
            exact wpStill_nil rfl
          case hC =>
            refine R.wpSeq_nil ?_
            go_wp2_with fail
            obtain ⟨wo, rfl⟩ : ∃ wo : World, wo = wr := ⟨_, rfl⟩
            go_loopg [8] k (fun q v8 wq => ∃ (v : Int) (arcsq : List S106), v8 = .int .i64 v ∧ Hid (wayF q arcsq bR v t = some arcsE) ∧ Hid (FlowAt wq base b n arcsq) ∧ arcsq.length = arcs.length + 2 ∧ Below base w wq ∧
              Hid (wq.heap[w.heap.size]? = some (.cells #[Value.int IntKind.i64 f, Value.int IntKind.i64 t, Value.int IntKind.i64 p] 47 (0, 0))) ∧ Hid (IntRow wq wo.heap.size bR) ∧ Hid (FlowApart wq b n w.heap.size) ∧ Hid (FlowApart wq b n wo.heap.size))
            case atStart => exact ⟨f, _, rfl, HWAY, HF4, by simp [addF], HB4.drew, HBK4, hb4, hp0.2, hp2.2⟩
            case round =>
              obtain ⟨v, arcsq, rfl, HW, HFq, hlq, hBq, HBKq, HBYq, HA0, HA1⟩ := hrel
              have x1 : wr.cell? ⟨w.heap.size, 1, none⟩ = some (.int .i64 t) := by simp [World.cell?, HBKq.out]
              cases gk with
              | zero => exact absurd HW.out (by simp [wayF])
              | succ q1 =>
              have hw := HW.out
              unfold wayF at hw
              have hFo := HFq.out.open (by omega)
              by_cases hvt : v = t
              · rw [if_pos hvt] at hw
                obtain rfl := Option.some.inj hw
                have hvt' : (v != (t : Int)) = false := by simp [hvt]
                clear hvt hw HW
                have hs2 := HSEND.out
                unfold send2 at hs2
                split at hs2
                · rename_i X Y hX hY
                  have htw : arcs.length ≠ twin arcs.length := by unfold twin; split <;> omega
                  have hsc := send_c base b n arcsq arcs.length (twin arcs.length) X Y wr HFq.out hX hY htw (xor_one _ (by omega)) (by omega)
                  have HSC := Lib.hid hsc
                  have HS2 := Lib.hid hs2
                  clear hsc hs2 hX hY htw hFo
                  go_wp2_with fail
                  refine HSC.out.mono ?_
                  rintro e w5 ⟨rfl, hF5, hB5, _⟩
                  go_wp2_with fail
                  go_end0
                  obtain rfl := Option.some.inj HS2.out
                  exact ⟨rfl, hF5, hBq.trans hB5⟩
                · cases hs2
              · rw [if_neg hvt] at hw
                have hvt' : (v != (t : Int)) = true := by simp [hvt]
                clear hvt
                split at hw
                · rename_i hc
                  obtain ⟨v0, v1, v2⟩ := hc
                  obtain ⟨vn, rfl⟩ := Int.eq_ofNat_of_zero_le v0
                  have hvl : vn < bR.length := by omega
                  obtain ⟨x, hx⟩ : ∃ x, bR[vn]? = some x := ⟨_, List.getElem?_eq_getElem hvl⟩
                  have hgx : gt0 bR (vn : Int) = x := by simp [gt0, hx]
                  rw [hgx] at hw v2
                  obtain ⟨i, rfl⟩ := Int.eq_ofNat_of_zero_le v2
                  obtain ⟨arcs1, hsend1, hw1⟩ := Option.bind_eq_some_iff.1 hw
                  rw [Int.toNat_natCast] at hsend1 hw1
                  split at hw1
                  · rename_i a1 ha1
                    have hs2 := hsend1
                    unfold send2 at hs2
                    split at hs2
                    · rename_i X Y hX hY
                      have hil := (List.getElem?_eq_some_iff.1 hX).1
                      have htw : i ≠ twin i := by unfold twin; split <;> omega
                      have hsc := send_c base b n arcsq i (twin i) X Y wr HFq.out hX hY htw (xor_one _ (by omega)) (by omega)
                      obtain rfl := Option.some.inj hs2
                      have e1 := HBYq.out.cell hx
                      have hvn : (vn : Int) < (n : Int) + 1 := by have := hRl.2; omega
                      have HSC := Lib.hid hsc
                      have HW1 := Lib.hid hw1
                      have HA1' := Lib.hid ha1
                      have HX := Lib.hid hx
                      clear hsc hw1 ha1 hx hgx hw hsend1 hs2 hX hY htw v0 v1 v2 hFo HW
                      go_wp2_with fail
                      refine HSC.out.mono ?_
                      rintro e w5 ⟨rfl, hF5, hB5, hA5⟩
                      go_wp2_with fail
                      have hby5 : IntRow w5 wo.heap.size bR := by unfold IntRow; rw [(hA5 _ HA1.out).1]; exact HBYq.out
                      have hF5' := hF5.open (by simp; omega)
                      obtain ⟨g5, cap5, cur5, _, _, hgb5, hblk5, hrow5, hc15, hc25, hcs5, hct5⟩ := hF5'
                      have hil5 : (i : Int) < ((arcsq.set i ⟨X.f0, X.f1, wrap64 (X.f2 - 1), X.f3⟩).set (twin i) ⟨Y.f0, Y.f1, wrap64 (Y.f2 + 1), Y.f3⟩).length := by simp; omega
                      have cells5 : ∀ w', R.Keeps [] w5 w' → w'.cell? ⟨b, 1, none⟩ = some (.slice (some ⟨g5, 0, none⟩) ((arcsq.set i ⟨X.f0, X.f1, wrap64 (X.f2 - 1), X.f3⟩).set (twin i) ⟨Y.f0, Y.f1, wrap64 (Y.f2 + 1), Y.f3⟩).length cap5) ∧ w'.cell? ⟨g5, i * 4, none⟩ = some (.int .i64 a1.f0) ∧ w'.cell? ⟨wo.heap.size, vn, none⟩ = some (.int .i64 i) := fun w' h =>
                        ⟨h.cell (a := ⟨b, 1, none⟩) (by simp [World.cell?, hblk5]) (by simp), h.cell (a := ⟨g5, i * 4, none⟩) (arc_cells hrow5 hct5 HA1'.out).1 (by simp), (hby5.keep h (by simp)).cell HX.out⟩
                      obtain ⟨L5, hL5⟩ : ∃ L, ((arcsq.set i ⟨X.f0, X.f1, wrap64 (X.f2 - 1), X.f3⟩).set (twin i) ⟨Y.f0, Y.f1, wrap64 (Y.f2 + 1), Y.f3⟩).length = L := ⟨_, rfl⟩
                      rw [hL5] at cells5 hil5
                      have hL5' : L5 = arcs.length + 2 := by rw [← hL5]; simp; omega
                      have CE5 := Lib.hid cells5
                      have HF5 := Lib.hid hF5
                      have HL5 := Lib.hid hL5
                      have HL5' := Lib.hid hL5'
                      clear cells5 hF5 hblk5 hrow5 hcs5 hct5 hL5 hL5' x1 hc15 hc25
                      apply R.wp_region_text [0, 1, 2, 3, 4, 5, 6, 7, 8, 9, 10, 11] [] 12 (R.Keeps [] w5)
                      case hm => kernel_rfl
                      case hB => kernel_rfl
                      case hd => rfl
                      case hQ => exact fun _ _ _ _ _ h => h
                      case hS => exact (R.Keeps.refl _ _).drew
                      case hF =>
                        intro w' hS
                        obtain ⟨z1, z2, z3⟩ := CE5.out w' hS
                        have HS := Lib.hid hS
                        clear hS
                        simp only [R.pickC, List.filterMap_cons, List.getElem?_toArray, List.getElem?_cons_zero, List.getElem?_cons_succ, List.filterMap_nil]
                        (with_reducible refine R.wpStill_plain rfl (fun K hK => ?_)); go_simp; with_reducible refine hK _ ?_; clear hK K
                        (with_reducible refine R.wpStill_plain rfl (fun K hK => ?_)); go_simp; with_reducible refine hK _ ?_; clear hK K
                        (with_reducible refine R.wpStill_plain rfl (fun K hK => ?_)); go_simp; with_reducible refine hK _ ?_; clear hK K
                        (with_reducible refine R.wpStill_plain rfl (fun K hK => ?_)); go_simp; with_reducible refine hK _ ?_; clear hK K
                        (with_reducible refine R.wpStill_plain rfl (fun K hK => ?_)); go_simp; with_reducible refine hK _ ?_; clear hK K
                        (with_reducible refine R.wpStill_plain rfl (fun K hK => ?_)); go_simp; with_reducible refine hK _ ?_; clear hK K
                        (with_reducible refine R.wpStill_plain rfl (fun K hK => ?_)); go_simp; with_reducible refine hK _ ?_; clear hK K
                        (with_reducible refine R.wpStill_plain rfl (fun K hK => ?_)); go_simp; with_reducible refine hK _ ?_; clear hK K
                        (with_reducible refine R.wpStill_plain rfl (fun K hK => ?_)); go_simp; with_reducible refine hK _ ?_; clear hK K
                        (with_reducible refine R.wpStill_plain rfl (fun K hK => ?_)); go_simp; with_reducible refine hK _ ?_; clear hK K
                        (with_reducible refine R.wpStill_plain rfl (fun K hK => ?_)); go_simp; with_reducible refine hK _ ?_; clear hK K
                        (with_reducible refine R.wpStill_plain rfl (fun K hK => ?_)); go_simp; with_reducible refine hK _ ?_; clear hK K
                        exact wpStill_nil rfl
                      case hC =>
                        refine R.wpSeq_nil ?_
                        go_wp2_with fail
                        go_roundg q1
                        case measure => omega
                        case rel => exact ⟨_, _, rfl, HW1.out, HF5.out, HL5.out.trans HL5'.out, (hBq.trans hB5).drew, (by show w5.heap[w.heap.size]? = _; rw [(hA5 _ HA0.out).1]; exact HBKq.out), hby5, (hA5 _ HA0.out).2, (hA5 _ HA1.out).2⟩
                    · cases hs2
                  · cases hw1
                · cases hw
end Go.Proofs.Ytpjobcnfjpbaeaa.A

set_option linter.unusedVariables false
set_option linter.unusedSimpArgs false
namespace Go.Proofs.Ytpjobcnfjpbaeaa.A
open Go.RowKit Go.Proofs.YtpjobcnfjpbaeaaW.PrintWords Go.Proofs.YtpjobcnfjpbaeaaW.PrintLast Go.Proofs.YtpjobcnfjpbaeaaW.PrintMore
open Go.Proofs.Ytpjobcnfjpbaeaa.PA
def Bk (n : Nat) (x : S47) : Prop := 0 ≤ x.f0 ∧ x.f0 < x.f1 ∧ x.f1 ≤ n
def takesF (k n : Nat) (arcs : List S106) : List S47 → Option (List S106)
  | [] => some arcs
  | x :: l => (takeF k n arcs x.f0 x.f1 x.f2).bind fun arcs1 => takesF k n arcs1 l
theorem takesF_snoc (k n : Nat) (arcs : List S106) (l : List S47) (x : S47) : takesF k n arcs (l ++ [x]) = (takesF k n arcs l).bind fun a => takeF k n a x.f0 x.f1 x.f2 := by
  induction l generalizing arcs with
  | nil => simp [takesF]
  | cons y l ih =>
    simp only [List.cons_append, takesF]
    cases h : takeF k n arcs y.f0 y.f1 y.f2 with
    | none => rfl
    | some a => simp only [Option.bind_some]; exact ih a
def moved (a : S106) (x : S47) : Bool := !a.f0 == x.f0 || (!a.f1 == x.f1 || (!a.f2 == 1 || !a.f3 == x.f2))
def takenK (n : Nat) (arcs : List S106) (l : List S47) : Nat → List Int
  | 0 => []
  | k + 1 => if moved (arcs.getD (2 * (n + k)) z106) (l.getD k z47) then takenK n arcs l k ++ [(k : Int)] else takenK n arcs l k
def pricesK (g : List Int) : Nat → List Int
  | 0 => []
  | k + 1 => pricesK g k ++ [wrap64 (g.getD (k + 1) 0 - g.getD k 0)]
def acceptF (k : Nat) (l : List S47) (rooms : List Int) : Option (List Int × List Int) :=
  (takesF k rooms.length (newK rooms rooms.length) l).bind fun arcs =>
    (relaxF k arcs (List.replicate (rooms.length + 1) 0) (List.replicate (rooms.length + 1) 0)).bind fun gb =>
      some (takenK rooms.length arcs l l.length, pricesK gb.1 rooms.length)
def SameEnds (a b : List S106) : Prop := a.length = b.length ∧ ∀ (i : Nat) (x y : S106), a[i]? = some x → b[i]? = some y → x.f0 = y.f0 ∧ x.f1 = y.f1 ∧ x.f3 = y.f3
theorem SameEnds.refl (a : List S106) : SameEnds a a := ⟨rfl, fun i x y h1 h2 => by rw [h1] at h2; obtain rfl := Option.some.inj h2; exact ⟨rfl, rfl, rfl⟩⟩
theorem SameEnds.trans {a b c : List S106} (h : SameEnds a b) (h1 : SameEnds b c) : SameEnds a c := ⟨h.1.trans h1.1, fun i x z hx hz => by
  have hi : i < b.length := by have := (List.getElem?_eq_some_iff.1 hx).1; have := h.1; omega
  obtain ⟨p, q, r⟩ := h.2 i x b[i] hx (List.getElem?_eq_getElem hi)
  obtain ⟨p', q', r'⟩ := h1.2 i b[i] z (List.getElem?_eq_getElem hi) hz
  exact ⟨p.trans p', q.trans q', r.trans r'⟩⟩
theorem SameEnds.set {a : List S106} {i : Nat} {x : S106} (h : a[i]? = some x) (r : Int) : SameEnds a (a.set i ⟨x.f0, x.f1, r, x.f3⟩) := ⟨by simp, fun j y z hy hz => by
  rw [List.getElem?_set] at hz
  split at hz
  · rename_i e
    subst e
    rw [h] at hy
    obtain rfl := Option.some.inj hy
    split at hz
    · obtain rfl := Option.some.inj hz; exact ⟨rfl, rfl, rfl⟩
    · cases hz
  · rw [hy] at hz; obtain rfl := Option.some.inj hz; exact ⟨rfl, rfl, rfl⟩⟩
theorem send2_ends {a b : List S106} {i : Nat} (h : send2 a i = some b) : SameEnds a b := by
  unfold send2 at h
  split at h
  · rename_i x y hx hy
    obtain rfl := Option.some.inj h
    have h1 := SameEnds.set hx (wrap64 (x.f2 - 1))
    have hne : i ≠ twin i := by unfold twin; split <;> omega
    have hy' : (a.set i ⟨x.f0, x.f1, wrap64 (x.f2 - 1), x.f3⟩)[twin i]? = some y := by rw [List.getElem?_set_ne hne]; exact hy
    exact h1.trans (SameEnds.set hy' _)
  · cases h
theorem wayF_ends {k : Nat} {a c : List S106} {b : List Int} {v t : Int} (h : wayF k a b v t = some c) : SameEnds a c := by
  induction k generalizing a v with
  | zero => simp [wayF] at h
  | succ k ih =>
    unfold wayF at h
    split at h
    · obtain rfl := Option.some.inj h; exact .refl _
    · split at h
      · obtain ⟨a1, h1, h2⟩ := Option.bind_eq_some_iff.1 h
        split at h2
        · exact (send2_ends h1).trans (ih h2)
        · cases h2
      · cases h
theorem takeF_ends {k n : Nat} {arcs arcs' : List S106} {f t p : Int} (h : takeF k n arcs f t p = some arcs') : SameEnds (addF arcs f t 1 p 0) arcs' := by
  obtain ⟨gb, _, h2⟩ := Option.bind_eq_some_iff.1 h
  split at h2
  · obtain rfl := Option.some.inj h2; exact .refl _
  · split at h2
    · obtain rfl := Option.some.inj h2; exact .refl _
    · obtain ⟨a1, h3, h4⟩ := Option.bind_eq_some_iff.1 h2
      exact (wayF_ends h3).trans (send2_ends h4)
theorem ArcsIn.ends {m : Nat} {a b : List S106} (h : ArcsIn m a) (he : SameEnds a b) : ArcsIn m b := fun i y hy => by
  have hi : i < a.length := by have := (List.getElem?_eq_some_iff.1 hy).1; have := he.1; omega
  obtain ⟨p, q, _⟩ := he.2 i a[i] y (List.getElem?_eq_getElem hi) hy
  have := h i a[i] (List.getElem?_eq_getElem hi)
  rw [← p, ← q]; exact this
theorem ArcsIn.add {m : Nat} {a : List S106} {f t r g b : Int} (h : ArcsIn m a) (hf : 0 ≤ f ∧ f < m) (ht : 0 ≤ t ∧ t < m) : ArcsIn m (addF a f t r g b) := fun i x hx => by
  unfold addF at hx
  rw [List.getElem?_append] at hx
  split at hx
  · exact h i x hx
  · rename_i hi
    obtain ⟨j, hj⟩ : ∃ j, i - a.length = j := ⟨_, rfl⟩
    rw [hj] at hx
    match j with
    | 0 => simp at hx; subst hx; exact ⟨hf.1, hf.2, ht.1, ht.2⟩
    | 1 => simp at hx; subst hx; exact ⟨ht.1, ht.2, hf.1, hf.2⟩
    | j + 2 => simp at hx
theorem newK_in (rooms : List Int) (m : Nat) : ∀ k, k < m → ArcsIn m (newK rooms k)
  | 0, _ => fun i x hx => by simp [newK] at hx
  | k + 1, hk => (newK_in rooms m k (by omega)).add (by omega) (by omega)
theorem takesF_keeps {k n : Nat} : ∀ {l : List S47} {arcs arcs' : List S106}, takesF k n arcs l = some arcs' → (∀ x ∈ l, Bk n x) → ArcsIn (n + 1) arcs → ArcsIn (n + 1) arcs' ∧ arcs'.length = arcs.length + 2 * l.length
  | [], arcs, arcs', h, _, hI => by simp [takesF] at h; subst h; exact ⟨hI, rfl⟩
  | x :: l, arcs, arcs', h, hl, hI => by
    obtain ⟨a1, h1, h2⟩ := Option.bind_eq_some_iff.1 h
    obtain ⟨b1, b2, b3⟩ := hl x List.mem_cons_self
    have he := takeF_ends h1
    have hI1 : ArcsIn (n + 1) a1 := (hI.add (by omega) (by omega)).ends he
    obtain ⟨h3, h4⟩ := takesF_keeps h2 (fun y hy => hl y (List.mem_cons_of_mem _ hy)) hI1
    refine ⟨h3, ?_⟩
    have := he.1
    simp [addF] at this
    simp [h4]
    omega
end Go.Proofs.Ytpjobcnfjpbaeaa.A

set_option linter.unusedVariables false
set_option linter.unusedSimpArgs false
namespace Go.Proofs.Ytpjobcnfjpbaeaa.M
open Go.RowKit Go.Proofs.YtpjobcnfjpbaeaaW.PrintWords Go.Proofs.YtpjobcnfjpbaeaaW.PrintLast Go.Proofs.YtpjobcnfjpbaeaaW.PrintMore
open Go.Proofs.Ytpjobcnfjpbaeaa.PA Go.Proofs.Ytpjobcnfjpbaeaa.A
structure Rep (P : Pairs) (φ : Nat → Int) (arcs : List S106) : Prop where
  len : arcs.length = 2 * P.n
  fwd : ∀ j, j < P.n → arcs[2 * j]? = some ⟨P.F j, P.T j, P.c j - φ j, P.g j⟩
  bwd : ∀ j, j < P.n → arcs[2 * j + 1]? = some ⟨P.T j, P.F j, φ j, -P.g j⟩
def gf (g : List Int) : Nat → Int := fun v => g.getD v 0
end Go.Proofs.Ytpjobcnfjpbaeaa.M

set_option linter.unusedVariables false
set_option linter.unusedSimpArgs false
namespace Go.Proofs.Ytpjobcnfjpbaeaa.A
open Go.RowKit Go.Proofs.YtpjobcnfjpbaeaaW.PrintWords Go.Proofs.YtpjobcnfjpbaeaaW.PrintLast Go.Proofs.YtpjobcnfjpbaeaaW.PrintMore
open Go.Proofs.Ytpjobcnfjpbaeaa.PA
theorem eqA106 (d : Nat) (w : World) (x0 y0 : Int) (x1 y1 : Int) (x2 y2 : Int) (x3 y3 : Int) :
    (Op.equalIn (d + 2) 106 (.agg #[.int .i64 x0, .int .i64 x1, .int .i64 x2, .int .i64 x3]) (.agg #[.int .i64 y0, .int .i64 y1, .int .i64 y2, .int .i64 y3])).run Try.prog w = .ok (x0 == y0 && (x1 == y1 && (x2 == y2 && (x3 == y3)))) w := by
  refine eqA_of Try.underlying106 (by kernel_rfl) ?_
  refine eqf_cons (by rfl) (by go_simp; rfl) (by go_simp; rfl) (by go_simp) ?_
  refine eqf_cons (by rfl) (by go_simp; rfl) (by go_simp; rfl) (by go_simp) ?_
  refine eqf_cons (by rfl) (by go_simp; rfl) (by go_simp; rfl) (by go_simp) ?_
  exact eqf_last (by rfl) (by go_simp; rfl) (by go_simp; rfl) (by go_simp)
attribute [local go_sem high] eqA106
theorem takenK_next {n q : Nat} {arcs : List S106} {l : List S47} {b : Bool} (h : moved (arcs.getD (2 * (n + q)) z106) (l.getD q z47) = b) : takenK n arcs l (q + 1) = if b then takenK n arcs l q ++ [(q : Int)] else takenK n arcs l q := by
  simp only [takenK]
  rw [h]
theorem own_slice {w : World} {base : Nat} {e : TypeId} {size n : Nat} {v : Value} {xs : List Value} (h : w.ownsRow base e size v n xs) : ∃ A c, v = .slice A n c := by
  rcases h.2 with ⟨rfl, h0⟩ | ⟨g, cap, cur, rfl, _⟩
  · exact ⟨none, 0, by rw [h0]⟩
  · exact ⟨_, _, rfl⟩
theorem pricesK_len (g : List Int) : ∀ q, (pricesK g q).length = q
  | 0 => rfl
  | q + 1 => by simp [pricesK, pricesK_len g q]
theorem takenK_len (n : Nat) (arcs : List S106) (l : List S47) : ∀ q, (takenK n arcs l q).length ≤ q
  | 0 => by simp [takenK]
  | q + 1 => by
    have := takenK_len n arcs l q
    unfold takenK
    split
    · simp; exact this
    · omega
theorem FlowAt.below {w w' : World} {base b : Nat} {n : Int} {arcs : List S106} (h : FlowAt w base b n arcs) (hb : Below w.heap.size w w') : FlowAt w' base b n arcs :=
  h.keep (R.Keeps.of_below [] hb) (fun k hk => by simp at hk)
theorem FlowAt.alloc {w : World} {base b : Nat} {n : Int} {arcs : List S106} (h : FlowAt w base b n arcs) (o : Obj) : FlowAt (w.alloc o) base b n arcs :=
  h.below ((Below.refl _ _).alloc (Nat.le_refl _) _)
theorem takesF_append (k n : Nat) (arcs : List S106) (l l2 : List S47) : takesF k n arcs (l ++ l2) = (takesF k n arcs l).bind fun a => takesF k n a l2 := by
  induction l generalizing arcs with
  | nil => simp [takesF]
  | cons y l ih =>
    simp only [List.cons_append, takesF]
    cases h : takeF k n arcs y.f0 y.f1 y.f2 with
    | none => rfl
    | some a => simp only [Option.bind_some]; exact ih a
theorem takesF_next {k n : Nat} {arcs0 arcs E : List S106} {l : List S47} {q : Nat} {x : S47} (h : takesF k n arcs0 l = some E) (hq : takesF k n arcs0 (l.take q) = some arcs) (hx : l[q]? = some x) :
    ∃ a1, takeF k n arcs x.f0 x.f1 x.f2 = some a1 ∧ takesF k n arcs0 (l.take (q + 1)) = some a1 := by
  obtain ⟨hk, e⟩ := List.getElem?_eq_some_iff.1 hx
  have hl : l = l.take q ++ x :: l.drop (q + 1) := by rw [← e]; simp
  rw [hl, takesF_append, hq, Option.bind_some] at h
  obtain ⟨a1, h1, _⟩ := Option.bind_eq_some_iff.1 h
  refine ⟨a1, h1, ?_⟩
  rw [List.take_succ_eq_append_getElem hk, takesF_snoc, hq, Option.bind_some, e]
  exact h1
set_option maxRecDepth 100000 in
set_option maxHeartbeats 3200000 in
theorem accept_c (A : Option Addr) (c : Nat) (l : List S47) (A1 : Option Addr) (c1 k : Nat) (rooms : List Int) (tk pr : List Int) (w : World) (hr : Kd.C k47 w A l.length l) (hr1 : Kd.C (Kd.int .i64) w A1 rooms.length rooms)
    (hl : l.length ≤ 1000) (hn : rooms.length ≤ 900) (hn0 : 0 < rooms.length) (hbk : ∀ x ∈ l, Bk rooms.length x) (h : acceptF k l rooms = some (tk, pr)) :
    Calls Try.prog 65 #[.slice A l.length c, .slice A1 rooms.length c1] w fun e w' => ∃ v1 v2, e = .returned (.agg #[v1, v2]) ∧
      w'.ownsRow w.heap.size 3 1 v1 tk.length (ints tk) ∧ w'.ownsRow w.heap.size 3 1 v2 pr.length (ints pr) ∧ (∀ k, v1.ownBlock = some k → v2.ownBlock ≠ some k) ∧ Below w.heap.size w w' := by
  obtain ⟨i0, hi0, hz0, hz1, hz2⟩ := info_parts info3
  obtain ⟨arcsE, htakes, h'⟩ := Option.bind_eq_some_iff.1 h
  clear h
  obtain ⟨gb, hrelax, h⟩ := Option.bind_eq_some_iff.1 h'
  clear h'
  obtain ⟨gR, bR⟩ := gb
  obtain ⟨hIE, hLE⟩ := takesF_keeps htakes hbk (newK_in rooms _ _ (Nat.lt_succ_self _))
  rw [newK_len] at hLE
  have hB1 := (Below.refl w.heap.size w).alloc (Nat.le_refl _) (Obj.cells #[Value.slice none 0 0, Value.slice none 0 0] 39)
  have hnew := newFlow_c A1 c1 rooms (w.alloc (Obj.cells #[Value.slice none 0 0, Value.slice none 0 0] 39)) (Kd.C_below hr1 hB1) (by omega)
  have HNEW := Lib.hid hnew
  have HR := Lib.hid hr
  have HR1 := Lib.hid hr1
  have HBK := Lib.hid hbk
  have HT := Lib.hid htakes
  have HX := Lib.hid hrelax
  have HH := Lib.hid h
  have HIE := Lib.hid hIE
  have HLE := Lib.hid hLE
  have HB1 := Lib.hid hB1
  clear hnew hr hr1 hbk htakes hrelax h hIE hLE hB1
  go_enter Try.func65, Try.ntmps65
  go_wp2_with fail
  refine HNEW.out.mono ?_
  rintro e w1 ⟨rfl, hF1, hBW1⟩
  have hs0 : (w.alloc (Obj.cells #[Value.slice none 0 0, Value.slice none 0 0] 39)).heap.size = w.heap.size + 1 := by simp
  rw [hs0] at hF1 hBW1
  have hc0 : w1.heap[w.heap.size]? = some (.cells #[Value.slice none 0 0, Value.slice none 0 0] 39 (0, 0)) := by rw [hBW1.block _ (by omega), heap_alloc_new]
  have HW1 : Below w.heap.size w w1 := HB1.out.trans (hBW1.mono (by omega))
  go_wp2_with fail
  go_loopw [17] (fun v wr => ∃ (q : Nat) (arcs : List S106), v = .int .i64 (q : Int) ∧ q ≤ l.length ∧ Hid (takesF k rooms.length (newK rooms rooms.length) (l.take q) = some arcs) ∧ Hid (FlowAt wr (w.heap.size + 1) (w.heap.size + 1) rooms.length arcs) ∧ Below (w.heap.size + 1) w1 wr) (fun v _ => l.length - (intOf v).toNat)
  case atStart => exact ⟨0, _, rfl, Nat.zero_le _, by rw [List.take_zero]; rfl, hF1, Below.refl _ _⟩
  case round =>
    obtain ⟨q, arcs, rfl, hq, HTQ, HFQ, hBQ⟩ := hrel
    have hBr : Below w.heap.size w wr := HW1.trans (hBQ.mono (by omega))
    by_cases hlt : q < l.length
    · obtain ⟨ad, x, eA, HXQ, h0, h1, h2⟩ := at_bk HR.out hBr q hlt
      cases eA
      obtain ⟨a1, ht1, ht2⟩ := takesF_next HT.out HTQ.out HXQ.out
      obtain ⟨b1, b2, b3⟩ := HBK.out x (List.mem_of_getElem? HXQ.out)
      obtain ⟨f, t, p⟩ := x
      obtain ⟨f, rfl⟩ := Int.eq_ofNat_of_zero_le b1
      obtain ⟨t, rfl⟩ := Int.eq_ofNat_of_zero_le (show (0 : Int) ≤ t from by have : (f : Int) < t := b2; omega)
      have b2' : f < t := by have : (f : Int) < t := b2; omega
      have b3' : t ≤ rooms.length := by have : (t : Int) ≤ rooms.length := b3; omega
      have hk := takesF_keeps HTQ.out (fun y hy => HBK.out y (List.mem_of_mem_take hy)) (newK_in rooms _ _ (Nat.lt_succ_self _))
      rw [newK_len, List.length_take] at hk
      have htk := take_c (w.heap.size + 1) (w.heap.size + 1) k rooms.length arcs a1 f t p _ (HFQ.out.alloc (Obj.cells #[Value.int IntKind.i64 f, Value.int IntKind.i64 t, Value.int IntKind.i64 p] 47)) (by omega) (by omega) (by omega) hk.1 b2' b3' ht1
      have HTK := Lib.hid htk
      have HT2 := Lib.hid ht2
      clear htk ht1 ht2 hk b1 b2 b3
      go_wp2_with fail
      refine HTK.out.mono ?_
      rintro e w2 ⟨rfl, hF2, hBW2⟩
      go_wp2_with fail
      go_roundw
      case rel => exact ⟨q + 1, a1, by go_num, by omega, HT2, hF2, (hBQ.alloc (by have := hBQ.size; have := hBW1.size; omega) _).trans hBW2⟩
      case measure => simp [intOf]; omega
    · obtain rfl : q = l.length := by omega
      obtain rfl : arcsE = arcs := by
        have h1 := HT.out
        have h2 := HTQ.out
        rw [List.take_length, h1] at h2
        exact Option.some.inj h2
      go_wp2_with fail
      obtain ⟨wo, rfl⟩ : ∃ wo : World, wo = wr := ⟨_, rfl⟩
      have hBo : Below w.heap.size w wo := HW1.trans (hBQ.mono (by omega))
      have HFE := HFQ
      have hso : w.heap.size + 1 < wo.heap.size := HFE.out.lt
      obtain ⟨g, cap, cur, hbb, hbg, hgb1, hblk, hrow, hc1, hc2, hcs, hct⟩ := HFE.out.open (by have := HLE.out; omega)
      have HBLK := Lib.hid hblk
      have HROW := Lib.hid hrow
      have HCT := Lib.hid hct
      have hgl : g < wo.heap.size := by
        rcases Nat.lt_or_ge g wo.heap.size with h' | h'
        · exact h'
        · rw [Array.getElem?_eq_none h'] at hrow; cases hrow
      clear hblk hrow hct hcs
      go_loopw [27] (fun v wr => ∃ (q : Nat) (v1 : Value), v = .int .i64 (q : Int) ∧ q ≤ l.length ∧ Hid (wr.heap[wo.heap.size]? = some (.cells #[v1, .slice none 0 0] 39 (0, 0))) ∧
          Hid (wr.ownsRow (wo.heap.size + 1) 3 1 v1 (takenK rooms.length arcsE l q).length (ints (takenK rooms.length arcsE l q))) ∧ Below wo.heap.size wo wr ∧ wo.heap.size < wr.heap.size) (fun v _ => l.length - (intOf v).toNat)
      case atStart => exact ⟨0, .slice none 0 0, rfl, Nat.zero_le _, heap_alloc_new _ _, own_nil _ _ _ _, (Below.refl _ _).alloc (Nat.le_refl _) _, by simp⟩
      case round =>
        obtain ⟨q, v1, rfl, hq, HC, HO, hBq, hsq⟩ := hrel
        have hBr : Below w.heap.size w wr := hBo.trans (hBq.mono (by omega))
        by_cases hlt : q < l.length
        · obtain ⟨ad, x, eA, HXQ, h0, h1, h2⟩ := at_bk HR.out hBr q hlt
          cases eA
          obtain ⟨f, t, p⟩ := x
          obtain ⟨j, hj⟩ : ∃ j : Nat, j = 2 * (rooms.length + q) := ⟨_, rfl⟩
          obtain ⟨s, hs⟩ : ∃ s : Int, s = (rooms.length : Int) + q := ⟨_, rfl⟩
          have hs1 : IntKind.i64.wrap ((rooms.length : Int) + q) = s := by rw [i64_w]; unfold wrap64; omega
          have hs2 : IntKind.i64.wrap (2 * s) = (j : Int) := by rw [i64_w]; unfold wrap64; omega
          have hjl : j < arcsE.length := by have := HLE.out; omega
          obtain ⟨a, ha⟩ : ∃ a, arcsE[j]? = some a := ⟨_, List.getElem?_eq_getElem hjl⟩
          have hj1 : (j : Int) < arcsE.length := by omega
          have hmv : moved (arcsE.getD (2 * (rooms.length + q)) z106) (l.getD q z47) = moved a ⟨f, t, p⟩ := by
            rw [← hj]; have := HXQ.out; simp [ha, this]
          have cells : ∀ w', R.Keeps [] (wr.alloc (Obj.cells #[Value.int IntKind.i64 f, Value.int IntKind.i64 t, Value.int IntKind.i64 p] 47)) w' → w'.cell? ⟨w.heap.size + 1, 1, none⟩ = some (.slice (some ⟨g, 0, none⟩) arcsE.length cap) ∧
              w'.cell? ⟨g, j * 4, none⟩ = some (.int .i64 a.f0) ∧ w'.cell? ⟨g, j * 4 + 1, none⟩ = some (.int .i64 a.f1) ∧ w'.cell? ⟨g, j * 4 + 2, none⟩ = some (.int .i64 a.f2) ∧ w'.cell? ⟨g, j * 4 + 3, none⟩ = some (.int .i64 a.f3) ∧
              w'.cell? ⟨wr.heap.size, 0, none⟩ = some (.int .i64 f) ∧ w'.cell? ⟨wr.heap.size, 1, none⟩ = some (.int .i64 t) ∧ w'.cell? ⟨wr.heap.size, 2, none⟩ = some (.int .i64 p) := by
            intro w' h
            have hk : R.Keeps [] wo w' := (R.Keeps.of_below [] hBq |>.alloc (Obj.cells #[Value.int IntKind.i64 f, Value.int IntKind.i64 t, Value.int IntKind.i64 p] 47)).trans h (fun _ hk => by simp at hk)
            obtain ⟨c0, c1, c2, c3⟩ := arc_cells HROW.out HCT.out ha
            refine ⟨hk.cell (a := ⟨w.heap.size + 1, 1, none⟩) (by simp [World.cell?, HBLK.out]) (by simp), hk.cell c0 (by simp), hk.cell c1 (by simp), hk.cell c2 (by simp), hk.cell c3 (by simp), h.cell (a := ⟨wr.heap.size, 0, none⟩) ?_ (by simp), h.cell (a := ⟨wr.heap.size, 1, none⟩) ?_ (by simp), h.cell (a := ⟨wr.heap.size, 2, none⟩) ?_ (by simp)⟩
            all_goals simp [go_sem]
          have CE := Lib.hid cells
          have HA := Lib.hid ha
          have HMV := Lib.hid hmv
          have HJ := Lib.hid hj
          have HSS := Lib.hid hs
          clear cells ha hmv hj hs
          go_wp2_with fail
          apply R.wp_region_text [0, 1, 2, 3, 4, 5, 6, 7, 8, 9, 10, 11, 12, 13, 14, 15, 16, 17, 18] [] 19 (R.Keeps [] (wr.alloc (Obj.cells #[Value.int IntKind.i64 f, Value.int IntKind.i64 t, Value.int IntKind.i64 p] 47)))
          case hm => kernel_rfl
          case hB => kernel_rfl
          case hd => rfl
          case hQ => exact fun _ _ _ _ _ h => h
          case hS => exact (R.Keeps.refl _ _).drew
          case hF =>
            intro w' hS
            obtain ⟨z1, z2, z3, z4, z5, z6, z7, z8⟩ := CE.out w' hS
            have HS := Lib.hid hS
            clear hS
            simp only [R.pickC, List.filterMap_cons, List.getElem?_toArray, List.getElem?_cons_zero, List.getElem?_cons_succ, List.filterMap_nil]
            (with_reducible refine R.wpStill_plain rfl (fun K hK => ?_)); go_simp; with_reducible refine hK _ ?_; clear hK K
            (with_reducible refine R.wpStill_plain rfl (fun K hK => ?_)); go_simp; with_reducible refine hK _ ?_; clear hK K
            (with_reducible refine R.wpStill_plain rfl (fun K hK => ?_)); go_simp; with_reducible refine hK _ ?_; clear hK K
            (with_reducible refine R.wpStill_plain rfl (fun K hK => ?_)); go_simp; with_reducible refine hK _ ?_; clear hK K
            (with_reducible refine R.wpStill_plain rfl (fun K hK => ?_)); go_simp; with_reducible refine hK _ ?_; clear hK K
            (with_reducible refine R.wpStill_plain rfl (fun K hK => ?_)); go_simp; with_reducible refine hK _ ?_; clear hK K
            (with_reducible refine R.wpStill_plain rfl (fun K hK => ?_)); go_simp; with_reducible refine hK _ ?_; clear hK K
            (with_reducible refine R.wpStill_plain rfl (fun K hK => ?_)); go_simp; with_reducible refine hK _ ?_; clear hK K
            (with_reducible refine R.wpStill_plain rfl (fun K hK => ?_)); go_simp; with_reducible refine hK _ ?_; clear hK K
            (with_reducible refine R.wpStill_plain rfl (fun K hK => ?_)); go_simp; with_reducible refine hK _ ?_; clear hK K
            (with_reducible refine R.wpStill_plain rfl (fun K hK => ?_)); go_simp; with_reducible refine hK _ ?_; clear hK K
            (with_reducible refine R.wpStill_plain rfl (fun K hK => ?_)); go_simp; with_reducible refine hK _ ?_; clear hK K
            (with_reducible refine R.wpStill_plain rfl (fun K hK => ?_)); go_simp; with_reducible refine hK _ ?_; clear hK K
            (with_reducible refine R.wpStill_plain rfl (fun K hK => ?_)); go_simp; with_reducible refine hK _ ?_; clear hK K
            (with_reducible refine R.wpStill_plain rfl (fun K hK => ?_)); go_simp; with_reducible refine hK _ ?_; clear hK K
            (with_reducible refine R.wpStill_plain rfl (fun K hK => ?_)); go_simp; with_reducible refine hK _ ?_; clear hK K
            (with_reducible refine R.wpStill_plain rfl (fun K hK => ?_)); go_simp; with_reducible refine hK _ ?_; clear hK K
            (with_reducible refine R.wpStill_plain rfl (fun K hK => ?_)); go_simp; with_reducible refine hK _ ?_; clear hK K
            (with_reducible refine R.wpStill_plain rfl (fun K hK => ?_)); go_simp; with_reducible refine hK _ ?_; clear hK K
            exact wpStill_nil rfl
          case hC =>
            refine R.wpSeq_nil ?_
            obtain ⟨bv, hbv⟩ : ∃ bv, (!a.f0 == f || (!a.f1 == t || (!a.f2 == 1 || !a.f3 == p))) = bv := ⟨_, rfl⟩
            rw [hbv]
            have HBV := Lib.hid hbv
            clear hbv
            have HKQ := takenK_next (HMV.out.trans HBV.out)
            have hBr2 := (hBq.alloc (by omega) (Obj.cells #[Value.int IntKind.i64 f, Value.int IntKind.i64 t, Value.int IntKind.i64 p] 47))
            have hc1 : (wr.alloc (Obj.cells #[Value.int IntKind.i64 f, Value.int IntKind.i64 t, Value.int IntKind.i64 p] 47)).heap[wo.heap.size]? = some (.cells #[v1, .slice none 0 0] 39 (0, 0)) := by rw [Below.heap_alloc _ _ _ hsq]; exact HC.out
            have hown := HO.out.alloc (Obj.cells #[Value.int IntKind.i64 f, Value.int IntKind.i64 t, Value.int IntKind.i64 p] 47)
            have HKQ' := Lib.hid HKQ
            clear HKQ
            cases bv
            · have HC1 := Lib.hid hc1
              clear hc1
              go_wp2_with fail
              go_roundw
              case rel => exact ⟨q + 1, v1, by go_num, by omega, HC1, (by rw [HKQ'.out]; exact hown), hBr2.drew, by simp; omega⟩
              case measure => simp [intOf]; omega
            · have hcc : (wr.alloc (Obj.cells #[Value.int IntKind.i64 f, Value.int IntKind.i64 t, Value.int IntKind.i64 p] 47)).cell? ⟨wo.heap.size, 0, none⟩ = some v1 := by simp [World.cell?, hc1]
              have hlk : (takenK rooms.length arcsE l q).length ≤ q := takenK_len _ _ _ _
              have hvne : v1.ownBlock ≠ some wo.heap.size := fun e => by have := HO.out.lt _ e; omega
              have HC1 := Lib.hid hc1
              clear hc1
              have hnw : ((wr.alloc (Obj.cells #[Value.int IntKind.i64 f, Value.int IntKind.i64 t, Value.int IntKind.i64 p] 47)).alloc (Obj.cells #[Value.int IntKind.i64 q] 3)).heap[wr.heap.size + 1]? = some (.cells #[Value.int IntKind.i64 q] 3 (0, 0)) := by
                have := heap_alloc_new (wr.alloc (Obj.cells #[Value.int IntKind.i64 f, Value.int IntKind.i64 t, Value.int IntKind.i64 p] 47)) (Obj.cells #[Value.int IntKind.i64 q] 3)
                rw [World.size_alloc] at this; exact this
              have HNW := Lib.hid hnw
              clear hnw
              go_wp2_with (at_builtin; refine wpList_append_own _ rfl (.tmp 52) (.tmp 54) 23 rfl (wo.heap.size + 1) 3 i0 (.int .i64 0) 1 8 Try.underlying23 hi0 hz0 hz1 hz2 rfl (by decide) _ _ _ rfl (hown.alloc _).drew ⟨wr.heap.size + 1, 0, none⟩ 1 1 [.int .i64 q] rfl rfl ?c1 ?c2 ?c3 ?c4 ?c5 ?main)
              (try case c1 => exact fun j u hu => World.news_of_block (cs := #[Value.int IntKind.i64 q]) HNW.out j u hu)
              case c2 => simp [Value.oneCell']
              case c3 => unfold maxLen; omega
              case c4 => omega
              case c5 => first | omega | (simp; omega)
              case main =>
              intro v' w3 hown' hgrow _
              obtain ⟨A', c', hv'⟩ := own_slice hown'
              rw [hv'] at hown' ⊢
              clear hv'
              have hb3 : w3.heap[wo.heap.size]? = some (.cells #[v1, .slice none 0 0] 39 (0, 0)) := by
                rw [hgrow.block _ (by simp; omega) (Ne.symm hvne)]; show ((wr.alloc _).alloc _).heap[_]? = _; rw [Below.heap_alloc _ _ _ (by simp; omega)]; exact HC1.out
              have hcell3 : w3.cell? ⟨wo.heap.size, 0, none⟩ = some v1 := by simp [World.cell?, hb3]
              have hfz3 : w3.frozen? ⟨wo.heap.size, 0, none⟩ = false := by simp [World.frozen?, hb3]
              have HB3 := Lib.hid hb3
              clear hb3
              go_wp2_with fail
              go_roundw
              case rel =>
                refine ⟨q + 1, .slice A' ((takenK rooms.length arcsE l q).length + 1) c', by go_num, by omega, ?_, ?_, ?_, ?_⟩
                · show (w3.setCell _ _).heap[wo.heap.size]? = _
                  simp [World.setCell, Array.getElem?_modify, HB3.out]
                · rw [HKQ'.out]
                  show World.ownsRow _ _ _ _ _ (takenK rooms.length arcsE l q ++ [(q : Int)]).length (ints (takenK rooms.length arcsE l q ++ [(q : Int)]))
                  have e1 : (takenK rooms.length arcsE l q ++ [(q : Int)]).length = (takenK rooms.length arcsE l q).length + 1 := by simp
                  have e2 : ints (takenK rooms.length arcsE l q ++ [(q : Int)]) = ints (takenK rooms.length arcsE l q) ++ [Value.int IntKind.i64 q] := by simp [ints]
                  rw [e1, e2]
                  exact own_move hown' (fun k hk => Below.heap_setCell _ _ _ _ (by have := (hown'.lt k hk).1; show k ≠ wo.heap.size; omega))
                · refine ((hBr2.alloc (by simp; omega) _).drew.grown hgrow (by simp; omega) (fun k hk => by have := (HO.out.lt k hk).1; omega)).setCell (p := ⟨wo.heap.size, 0, none⟩) (Nat.le_refl _) _
                · have := hgrow.size
                  simp [World.setCell] at this ⊢
                  omega
              case measure => simp [intOf]; omega
        · obtain rfl : q = l.length := by omega
          have HM := make_ints (rooms.length + 1) (by omega)
          rw [show ((rooms.length + 1 : Nat) : Int) = (rooms.length : Int) + 1 by omega] at HM
          have hHH := HH.out
          simp only [Option.some.injEq, Prod.mk.injEq] at hHH
          obtain ⟨htk, hpr⟩ := hHH
          subst htk hpr
          have hFr := HFE.out.below hBq
          have hFa := hFr.alloc (Obj.cells (ints (List.replicate (rooms.length + 1) 0)).toArray 3)
          have hap := hFr.apart_new (k := wr.heap.size) (Nat.le_refl _)
          have hrel := relax_c (w.heap.size + 1) (w.heap.size + 1) wr.heap.size (rooms.length + 1) k rooms.length arcsE (List.replicate (rooms.length + 1) 0) gR bR _ hFa (by have := HLE.out; omega) (by have := HLE.out; omega) HIE.out (by simp) (by omega) (IntRow.mk _ _)
            (fun v hv => ⟨hap.1, hap.2 v (by rw [← hv, Below.heap_alloc _ _ _ (by omega)])⟩) HX.out
          have HREL := Lib.hid hrel
          have HAP := Lib.hid hap
          have hn0' : wr.cell? ⟨w.heap.size + 1, 0, none⟩ = some (.int .i64 rooms.length) := by
            have := hBq.block (w.heap.size + 1) hso
            simp [World.cell?, this, HBLK.out]
          clear hrel hap hFr hFa
          go_wp2_with fail
          refine HREL.out.mono ?_
          rintro e w5 ⟨rfl, hb5, hg5, hK5⟩
          have hR5 := hK5.size
          simp at hR5
          have hC5 : w5.heap[wo.heap.size]? = some (.cells #[v1, .slice none 0 0] 39 (0, 0)) := by
            rw [hK5.block _ (by simp; omega) (by simp; omega), Below.heap_alloc _ _ _ hsq]; exact HC.out
          have hO5 : w5.ownsRow (wo.heap.size + 1) 3 1 v1 (takenK rooms.length arcsE l l.length).length (ints (takenK rooms.length arcsE l l.length)) :=
            own_move HO.out (fun k hk => by have := HO.out.lt k hk; rw [hK5.block _ (by simp; omega) (by simp; omega), Below.heap_alloc _ _ _ this.2])
          have hz5 : w5.heap[w.heap.size]? = some (.cells #[Value.slice none 0 0, Value.slice none 0 0] 39 (0, 0)) := by
            rw [hK5.block _ (by simp; omega) (by simp; omega), Below.heap_alloc _ _ _ (by omega), hBq.block _ (by omega), hBQ.block _ (by omega)]; exact hc0
          have hB5 : Below w.heap.size w w5 := (hBr.alloc (by omega) _).trans (hK5.to_below (by simp; omega) (fun k hk => by simp at hk; omega))
          have HC5 := Lib.hid hC5
          have HO5 := Lib.hid hO5
          have HZ5 := Lib.hid hz5
          clear hC5 hO5 hz5 hb5 hn0'
          go_wp2_with fail
          obtain ⟨gg, hgg⟩ : ∃ gg, gg = wr.heap.size := ⟨_, rfl⟩
          rw [← hgg] at hg5 hK5 ⊢
          obtain ⟨wp, rfl⟩ : ∃ wp : World, wp = wr := ⟨_, rfl⟩
          have hgg1 := Nat.le_of_eq hgg
          have hgg2 := Nat.le_of_eq hgg.symm
          clear hgg
          have hgl5 := hg5.lt
          have hsq5 : wo.heap.size < w5.heap.size := by omega
          have hgR := (relaxF_len (m := rooms.length + 1) HX.out (by simp) (by simp)).1
          have HGR := Lib.hid hgR
          clear hgR
          go_loopw [69] (fun v wr => ∃ (q : Nat) (v2 : Value), v = .int .i64 (q : Int) ∧ q ≤ rooms.length ∧ Hid (wr.heap[wo.heap.size]? = some (.cells #[v1, v2] 39 (0, 0))) ∧
            Hid (wr.ownsRow w5.heap.size 3 1 v2 (pricesK gR q).length (ints (pricesK gR q))) ∧ R.Keeps [wo.heap.size] w5 wr) (fun v _ => rooms.length - (intOf v).toNat)
          case atStart => exact ⟨0, .slice none 0 0, rfl, Nat.zero_le _, HC5, own_nil _ _ _ _, R.Keeps.refl _ _⟩
          case round =>
            obtain ⟨q, v2, rfl, hq, HCq, HOq, hKq⟩ := hrel
            have hzq := hKq.size
            by_cases hlt : q < rooms.length
            · obtain ⟨ga, hga⟩ : ∃ v, gR[q]? = some v := ⟨_, List.getElem?_eq_getElem (by rw [HGR.out]; omega)⟩
              obtain ⟨gc, hgc⟩ : ∃ v, gR[q + 1]? = some v := ⟨_, List.getElem?_eq_getElem (by rw [HGR.out]; omega)⟩
              have hv2 : v2.ownBlock ≠ some wo.heap.size := fun e => by have := (HOq.out.lt _ e).1; omega
              have hvg : v2.ownBlock ≠ some gg := fun e => by have := (HOq.out.lt _ e).1; omega
              have hx : ∀ k, v2.ownBlock ≠ some k → k ∉ v2.ownBlock.toList := fun k hk h2 => hk (by simpa using h2)
              have hgq := hg5.keep hKq (by simp; omega)
              have cells : ∀ w', R.Keeps v2.ownBlock.toList wr w' → w'.cell? ⟨wo.heap.size, 1, none⟩ = some v2 ∧ w'.cell? ⟨gg, q, none⟩ = some (.int .i64 ga) ∧ w'.cell? ⟨gg, q + 1, none⟩ = some (.int .i64 gc) := fun w' h =>
                ⟨h.cell (a := ⟨wo.heap.size, 1, none⟩) (by simp [World.cell?, HCq.out]) (hx _ hv2), (hgq.keep h (hx _ hvg)).cell hga, (hgq.keep h (hx _ hvg)).cell hgc⟩
              have hs1 : IntKind.i64.wrap ((q : Int) + 1) = (q : Int) + 1 := by rw [i64_w]; unfold wrap64; omega
              have hs2 : (0 : Int) ≤ (q : Int) + 1 := by omega
              have hs3 : ((q : Int) + 1).toNat = q + 1 := by omega
              have hs4 : (q : Int) + 1 < (rooms.length : Int) + 1 := by omega
              have hs5 : (q : Int) < (rooms.length : Int) + 1 := by omega
              have hpl : (pricesK gR q).length = q := pricesK_len _ _
              have hpn : pricesK gR (q + 1) = pricesK gR q ++ [IntKind.i64.wrap (gc - ga)] := by rw [pricesK, i64_w]; simp [hga, hgc]
              have HPN := Lib.hid hpn
              have HPL := Lib.hid hpl
              have CE := Lib.hid cells
              clear cells hga hgc hpn hpl hx hgq
              go_wp2_with fail
              apply R.wp_region_text [0, 1, 2, 3, 4, 5, 6, 7, 8, 9, 10, 11] [12, 13, 14, 15] 14 (R.Keeps v2.ownBlock.toList wr)
              case hm => kernel_rfl
              case hB => kernel_rfl
              case hd => rfl
              case hQ => exact fun _ _ _ _ _ h => h
              case hS => exact (R.Keeps.refl _ _).drew
              case hF =>
                intro w' hS
                obtain ⟨z1, z2, z3⟩ := CE.out w' hS
                have HS := Lib.hid hS
                clear hS
                simp only [R.pickC, List.filterMap_cons, List.getElem?_toArray, List.getElem?_cons_zero, List.getElem?_cons_succ, List.filterMap_nil]
                (with_reducible refine R.wpStill_plain rfl (fun K hK => ?_)); go_simp; with_reducible refine hK _ ?_; clear hK K
                (with_reducible refine R.wpStill_plain rfl (fun K hK => ?_)); go_simp; with_reducible refine hK _ ?_; clear hK K
                (with_reducible refine R.wpStill_plain rfl (fun K hK => ?_)); go_simp; with_reducible refine hK _ ?_; clear hK K
                (with_reducible refine R.wpStill_plain rfl (fun K hK => ?_)); go_simp; with_reducible refine hK _ ?_; clear hK K
                (with_reducible refine R.wpStill_plain rfl (fun K hK => ?_)); go_simp; with_reducible refine hK _ ?_; clear hK K
                (with_reducible refine R.wpStill_plain rfl (fun K hK => ?_)); go_simp; with_reducible refine hK _ ?_; clear hK K
                (with_reducible refine R.wpStill_plain rfl (fun K hK => ?_)); go_simp; with_reducible refine hK _ ?_; clear hK K
                (with_reducible refine R.wpStill_plain rfl (fun K hK => ?_)); go_simp; with_reducible refine hK _ ?_; clear hK K
                (with_reducible refine R.wpStill_plain rfl (fun K hK => ?_)); go_simp; with_reducible refine hK _ ?_; clear hK K
                (with_reducible refine R.wpStill_plain rfl (fun K hK => ?_)); go_simp; with_reducible refine hK _ ?_; clear hK K
                (with_reducible refine R.wpStill_plain rfl (fun K hK => ?_)); go_simp; with_reducible refine hK _ ?_; clear hK K
                (with_reducible refine R.wpStill_plain rfl (fun K hK => ?_)); go_simp; with_reducible refine hK _ ?_; clear hK K
                exact wpStill_nil rfl
              case hC =>
                simp only [R.chainOf, List.getElem?_toArray, List.getElem?_cons_zero, List.getElem?_cons_succ, Nat.reduceBNe, Bool.and_true, Bool.and_false, Bool.false_and]
                have HPL' := HPL.out
                refine R.wpSeq_same (fun K hK => ?_)
                go_simp
                with_reducible refine hK _ _ ((R.Keeps.refl _ _).alloc _).drew ?_
                clear hK K
                refine R.wpSeq_same (fun K hK => ?_)
                refine step_append_lies _ (by rfl) _ _ _ (by rfl) w5.heap.size 3 i0 _ 1 8 Try.underlying23 hi0 hz0 hz1 hz2 rfl (by omega) v2 (pricesK gR q).length (ints (pricesK gR q)) (by rfl) (HOq.out.alloc _).drew ⟨wr.heap.size, 0, none⟩ 1 1 [.int .i64 (IntKind.i64.wrap (gc - ga))] (by rfl) (by rfl) ?hnews ?hone (by omega) (by unfold maxLen; omega) (by omega) (by simp; omega) (wr.heap.size + 1) (by simp) ?_
                case hnews => exact fun j u hu => World.news_of_block (cs := #[Value.int IntKind.i64 (IntKind.i64.wrap (gc - ga))]) (heap_alloc_new wr _) j u hu
                case hone => simp [Value.oneCell']
                intro gn capn w6 hown6 hgrow hat hlt6
                refine hK _ _ (((R.Keeps.refl _ _).alloc _).drew.grown hgrow (fun k hk _ => by simp [hk])) ?_
                clear hK K
                have hb6 : w6.heap[wo.heap.size]? = some (.cells #[v1, v2] 39 (0, 0)) := by
                  rw [hgrow.block _ (by simp; omega) (Ne.symm hv2)]; show (wr.alloc _).heap[_]? = _; rw [Below.heap_alloc _ _ _ (by omega)]; exact HCq.out
                have hc6 : w6.cell? ⟨wo.heap.size, 1, none⟩ = some v2 := by simp [World.cell?, hb6]
                have hf6 : w6.frozen? ⟨wo.heap.size, 1, none⟩ = false := by simp [World.frozen?, hb6]
                have HB6 := Lib.hid hb6
                clear hb6
                refine R.wpSeq_tail _ rfl ?_
                simp only [List.map_cons, List.map_nil]
                go_wp2_with fail
                go_roundw
                case rel =>
                  have e1 : (pricesK gR (q + 1)).length = (pricesK gR q).length + 1 := by rw [HPN.out]; simp
                  have e2 : ints (pricesK gR (q + 1)) = ints (pricesK gR q) ++ [.int .i64 (IntKind.i64.wrap (gc - ga))] := by rw [HPN.out]; simp [ints]
                  refine ⟨q + 1, .slice (some ⟨gn, 0, none⟩) ((pricesK gR q).length + 1) capn, by go_num, by omega, ?_, ?_, ?_⟩
                  · show (w6.setCell _ _).heap[wo.heap.size]? = _
                    simp [World.setCell, Array.getElem?_modify, HB6.out, HPL.out]
                  · rw [Hid, e1, e2]
                    exact own_move hown6 (fun k hk => Below.heap_setCell _ _ _ _ (by have := (hown6.lt k hk).1; show k ≠ wo.heap.size; omega))
                  · exact ((((hKq.alloc _).drew).grown hgrow (fun k hk h' => by have := (HOq.out.lt k hk).1; omega)).setCell (p := ⟨wo.heap.size, 1, none⟩) (fun _ => List.mem_singleton.2 rfl) _)
                case measure => simp [intOf]; omega
            · obtain rfl : q = rooms.length := by omega
              obtain ⟨X1, y1, rfl⟩ := own_slice HO5.out
              obtain ⟨X2, y2, rfl⟩ := own_slice HOq.out
              have z1 : wr.cell? ⟨wo.heap.size, 0, none⟩ = some (.slice X1 (takenK rooms.length arcsE l l.length).length y1) := by simp [World.cell?, HCq.out]
              have z2 : wr.cell? ⟨wo.heap.size, 1, none⟩ = some (.slice X2 (pricesK gR rooms.length).length y2) := by simp [World.cell?, HCq.out]
              have hz : wr.heap[w.heap.size]? = some (.cells #[Value.slice none 0 0, Value.slice none 0 0] 39 (0, 0)) := by rw [hKq.block _ (by omega) (by simp; omega)]; exact HZ5.out
              have z3 : wr.cell? ⟨w.heap.size, 0, none⟩ = some (.slice none 0 0) := by simp [World.cell?, hz]
              have z4 : wr.cell? ⟨w.heap.size, 1, none⟩ = some (.slice none 0 0) := by simp [World.cell?, hz]
              have z5 : wr.frozen? ⟨w.heap.size, 0, none⟩ = false := by simp [World.frozen?, hz]
              have z6 : wr.frozen? ⟨w.heap.size, 1, none⟩ = false := by simp [World.frozen?, hz]
              have HZ := Lib.hid hz
              clear hz
              go_wp2_with fail
              have hq1 : (wr.setCell ⟨w.heap.size, 0, none⟩ (.slice X1 (takenK rooms.length arcsE l l.length).length y1)).cell? ⟨w.heap.size, 0, none⟩ = some (.slice X1 (takenK rooms.length arcsE l l.length).length y1) := by
                simp [World.cell?, World.setCell, Array.getElem?_modify, HZ.out]
              have hq2 : ((wr.setCell ⟨w.heap.size, 0, none⟩ (.slice X1 (takenK rooms.length arcsE l l.length).length y1)).setCell ⟨w.heap.size, 1, none⟩ (.slice X2 (pricesK gR rooms.length).length y2)).cell? ⟨w.heap.size, 1, none⟩ = some (.slice X2 (pricesK gR rooms.length).length y2) := by
                simp [World.cell?, World.setCell, Array.getElem?_modify, HZ.out]
              refine bodyPost_ret (v := .agg #[.slice X1 (takenK rooms.length arcsE l l.length).length y1, .slice X2 (pricesK gR rooms.length).length y2]) (by simp [results, Try.results65, go_sem, hq1, hq2]) rfl ⟨_, _, rfl, ?_, ?_, ?_, ?_⟩
              · refine own_weaken (own_move HO5.out (fun k hk => ?_)) (by omega)
                have := HO5.out.lt k hk
                rw [Below.heap_setCell _ _ _ _ (by show k ≠ w.heap.size; omega), Below.heap_setCell _ _ _ _ (by show k ≠ w.heap.size; omega), hKq.block k this.2 (by simp; omega)]
              · refine own_weaken (own_move HOq.out (fun k hk => ?_)) (by omega)
                have := HOq.out.lt k hk
                rw [Below.heap_setCell _ _ _ _ (by show k ≠ w.heap.size; omega), Below.heap_setCell _ _ _ _ (by show k ≠ w.heap.size; omega)]
              · intro k hk h2
                have h3 := (HO5.out.lt k hk).2
                have h4 := (HOq.out.lt k h2).1
                omega
              · exact ((hB5.trans (hKq.to_below (by omega) (fun k hk => by simp at hk; omega))).setCell (p := ⟨w.heap.size, 0, none⟩) (Nat.le_refl _) _).setCell (p := ⟨w.heap.size, 1, none⟩) (Nat.le_refl _) _
end Go.Proofs.Ytpjobcnfjpbaeaa.A

namespace Go.Proofs.Ytpjobcnfjpbaeaa.PA
open Go.RowKit Go.Proofs.YtpjobcnfjpbaeaaW.PrintWords Go.Proofs.YtpjobcnfjpbaeaaW.PrintLast Go.Proofs.YtpjobcnfjpbaeaaW.PrintMore
attribute [local go_sem] max2_int min2_int max_two min_two max_three min_three max_four min_four
set_option linter.unusedVariables false
set_option linter.unusedSimpArgs false
def rooms_within.f (a0 : Int) (a1 : Int) (a2 : Int) : Option (Bool) := if a0 ≥ a1 then (some (decide (a0 ≤ a2))) else (some false)
set_option maxHeartbeats 8000000 in
set_option maxRecDepth 100000 in
theorem rooms_within.calls (a0 : Int) (a1 : Int) (a2 : Int) (r : Bool) (w : World) (h : rooms_within.f a0 a1 a2 = some r) :
    Calls Try.prog 42 #[.int .i64 a0, .int .i64 a1, .int .i64 a2] w fun e w' => e = .returned (.bool r) ∧ Drawn0 w w' := by
  have H : (if a0 ≥ a1 then (some (decide (a0 ≤ a2))) else (some false)) = some r := h
  clear h
  by_cases c4 : a0 ≥ a1
  · rw [if_pos c4] at H
    have c4b0 : decide (a1 ≤ a0) = true := decide_eq_true c4
    clear c4
    obtain rfl := Option.some.inj H
    go_enter Try.func42, Try.ntmps42
    go_wp2
    go_ret
    exact ⟨by first | rfl | (simp; done) | (simp [*]; done), by repeat (first | exact Drawn0.refl _ | apply Drawn0.step)⟩
  · rw [if_neg c4] at H
    have c4b0 : decide (a1 ≤ a0) = false := decide_eq_false c4
    clear c4
    obtain rfl := Option.some.inj H
    go_enter Try.func42, Try.ntmps42
    go_wp2
    go_ret
    exact ⟨by first | rfl | (simp; done) | (simp [*]; done), by repeat (first | exact Drawn0.refl _ | apply Drawn0.step)⟩
end Go.Proofs.Ytpjobcnfjpbaeaa.PA

namespace Go.Proofs.Ytpjobcnfjpbaeaa.PA
open Go.RowKit Go.Proofs.YtpjobcnfjpbaeaaW.PrintWords Go.Proofs.YtpjobcnfjpbaeaaW.PrintLast Go.Proofs.YtpjobcnfjpbaeaaW.PrintMore
attribute [local go_sem] max2_int min2_int max_two min_two max_three min_three max_four min_four
set_option linter.unusedVariables false
set_option linter.unusedSimpArgs false
def rooms_taken.l0 : Nat → List (S47) → List Int → List (S47) → List Int → Int → Int → Option ((List (S47)) × Bool)
  | 0, _, _, _, _, _, _ => none
  | k + 1, x0, x1, x6, x9, x10, x11 => if x11 < x10 then (if 0 ≤ x11 then (if x11 < (x9.length : Int) then ((rooms_within.f (rd x9 x11) 0 (wrap64 ((x0.length : Int) - 1))).bind fun t130 => (if t130 = true then (if x11 > 0 then (if 0 ≤ (wrap64 (x11 - 1)) then (if (wrap64 (x11 - 1)) < (x1.length : Int) then (if (rd x1 (wrap64 (x11 - 1))) ≥ (rd x9 x11) then (some (([] : List (S47)), false)) else (if 0 ≤ (rd x9 x11) then (if (rd x9 x11) < (x0.length : Int) then (if x6.length < 5864062014805 then (rooms_taken.l0 k x0 x1 (x6 ++ [(⟨(rd_T47 x0 (rd x9 x11)).f0, (rd_T47 x0 (rd x9 x11)).f1, (rd_T47 x0 (rd x9 x11)).f2⟩ : S47)]) x9 x10 (wrap64 (x11 + 1))) else (none)) else (none)) else (none))) else (none)) else (none)) else (if 0 ≤ (rd x9 x11) then (if (rd x9 x11) < (x0.length : Int) then (if x6.length < 5864062014805 then (rooms_taken.l0 k x0 x1 (x6 ++ [(⟨(rd_T47 x0 (rd x9 x11)).f0, (rd_T47 x0 (rd x9 x11)).f1, (rd_T47 x0 (rd x9 x11)).f2⟩ : S47)]) x9 x10 (wrap64 (x11 + 1))) else (none)) else (none)) else (none))) else (some (([] : List (S47)), false)))) else (none)) else (none)) else (some (x6, true))
def rooms_taken.f (k : Nat) (l0 : List (S47)) (l1 : List Int) : Option ((List (S47)) × Bool) := rooms_taken.l0 k l0 l1 ([] : List (S47)) l1 (l1.length : Int) 0
set_option maxHeartbeats 8000000 in
set_option maxRecDepth 100000 in
theorem rooms_taken.calls (k : Nat) (A0 : Option Addr) (c0 : Nat) (l0 : List (S47)) (A1 : Option Addr) (c1 : Nat) (l1 : List Int) (r1 : List (S47)) (r2 : Bool) (w : World) (hr0 : Kd.C k47 w A0 l0.length l0) (hc0 : l0.length ≤ c0) (hr1 : Kd.C (Kd.int .i64) w A1 l1.length l1) (hc1 : l1.length ≤ c1) (h : rooms_taken.f k l0 l1 = some (r1, r2)) :
    Calls Try.prog 66 #[.slice A0 l0.length c0, .slice A1 l1.length c1] w fun e w' => ∃ v0_ : Value, e = .returned (.tuple #[v0_, .bool r2]) ∧ Kd.R k47 47 w' w.heap.size (fun _ => True) v0_ r1 ∧ Below w.heap.size w w' := by
  have hu47 := Try.underlying47
  have HR0 := Aside0.mk hr0
  have HC0 := Aside0.mk hc0
  clear hr0 hc0
  have HR1 := Aside0.mk hr1
  have HC1 := Aside0.mk hc1
  clear hr1 hc1
  have HB := Aside0.mk (Below.refl w.heap.size w)
  have H : (rooms_taken.l0 k l0 l1 ([] : List (S47)) l1 (l1.length : Int) 0) = some (r1, r2) := h
  clear h
  have H' := Aside0.mk H
  clear H
  go_enter Try.func66, Try.ntmps66
  go_wp2
  go_loopg [6, 11] k (fun kq v6 v11 w' => ∃ (x6_1 : List (S47)) (x11_1 : Int), v11 = .int .i64 x11_1 ∧ Aside0 (rooms_taken.l0 kq l0 l1 x6_1 l1 (l1.length : Int) x11_1 = some (r1, r2)) ∧ Aside0 (kq ≤ k) ∧ Aside0 (Kd.R k47 47 w' w.heap.size (fun _ => True) v6 x6_1) ∧ Aside0 (Below w.heap.size w w'))
  case atStart => exact ⟨(([] : List (S47))), (0), (by first | rfl | (simp; done) | (simp [*]; done)), H', ⟨Nat.le_refl _⟩, ⟨by first | exact Kd.R_nil _ _ _ _ _ | exact Kd.N_nil _ _ _ _ _ | exact Kd.V_nil _ _ _ _ _ | exact Kd.Q_nil _ _ _ _ _ | exact Kd.S_nil _ _ _ _ _⟩, ⟨by repeat (first | (with_reducible first | exact HB.out | apply below_alloc | apply pw_below_drewN | apply below_drew1) | exact HB.out)⟩⟩
  case round =>
    clear H'
    try clear c1
    try clear p2
    obtain ⟨x6_1, x11_1, rfl, HA, HK1, HO_6, HB⟩ := hrel
    cases gk with
    | zero => exact absurd HA.out (by simp [rooms_taken.l0])
    | succ k1 =>
      have H := HA.out
      clear HA
      simp only [rooms_taken.l0] at H
      by_cases c3 : x11_1 < (l1.length : Int)
      · rw [if_pos c3] at H
        have c3b0 : decide (x11_1 < (l1.length : Int)) = true := decide_eq_true c3
        clear c3
        by_cases c4 : 0 ≤ x11_1
        · rw [if_pos c4] at H
          have c4b0 : decide (0 ≤ x11_1) = true := decide_eq_true c4
          clear c4
          by_cases c5 : x11_1 < (l1.length : Int)
          · rw [if_pos c5] at H
            have c5b0 : decide (x11_1 < (l1.length : Int)) = true := decide_eq_true c5
            clear c5
            replace H := Option.bind_eq_some_iff.mp H
            obtain ⟨t130, A60, H⟩ := H
            replace H : (if t130 = true then (if x11_1 > 0 then (if 0 ≤ (wrap64 (x11_1 - 1)) then (if (wrap64 (x11_1 - 1)) < (l1.length : Int) then (if (rd l1 (wrap64 (x11_1 - 1))) ≥ (rd l1 x11_1) then (some (([] : List (S47)), false)) else (if 0 ≤ (rd l1 x11_1) then (if (rd l1 x11_1) < (l0.length : Int) then (if x6_1.length < 5864062014805 then (rooms_taken.l0 k1 l0 l1 (x6_1 ++ [(⟨(rd_T47 l0 (rd l1 x11_1)).f0, (rd_T47 l0 (rd l1 x11_1)).f1, (rd_T47 l0 (rd l1 x11_1)).f2⟩ : S47)]) l1 (l1.length : Int) (wrap64 (x11_1 + 1))) else (none)) else (none)) else (none))) else (none)) else (none)) else (if 0 ≤ (rd l1 x11_1) then (if (rd l1 x11_1) < (l0.length : Int) then (if x6_1.length < 5864062014805 then (rooms_taken.l0 k1 l0 l1 (x6_1 ++ [(⟨(rd_T47 l0 (rd l1 x11_1)).f0, (rd_T47 l0 (rd l1 x11_1)).f1, (rd_T47 l0 (rd l1 x11_1)).f2⟩ : S47)]) l1 (l1.length : Int) (wrap64 (x11_1 + 1))) else (none)) else (none)) else (none))) else (some (([] : List (S47)), false))) = some (r1, r2) := H
            have A6 := Aside0.mk A60
            clear A60
            by_cases c7 : t130 = true
            · subst c7
              have H1 : (if x11_1 > 0 then (if 0 ≤ (wrap64 (x11_1 - 1)) then (if (wrap64 (x11_1 - 1)) < (l1.length : Int) then (if (rd l1 (wrap64 (x11_1 - 1))) ≥ (rd l1 x11_1) then (some (([] : List (S47)), false)) else (if 0 ≤ (rd l1 x11_1) then (if (rd l1 x11_1) < (l0.length : Int) then (if x6_1.length < 5864062014805 then (rooms_taken.l0 k1 l0 l1 (x6_1 ++ [(⟨(rd_T47 l0 (rd l1 x11_1)).f0, (rd_T47 l0 (rd l1 x11_1)).f1, (rd_T47 l0 (rd l1 x11_1)).f2⟩ : S47)]) l1 (l1.length : Int) (wrap64 (x11_1 + 1))) else (none)) else (none)) else (none))) else (none)) else (none)) else (if 0 ≤ (rd l1 x11_1) then (if (rd l1 x11_1) < (l0.length : Int) then (if x6_1.length < 5864062014805 then (rooms_taken.l0 k1 l0 l1 (x6_1 ++ [(⟨(rd_T47 l0 (rd l1 x11_1)).f0, (rd_T47 l0 (rd l1 x11_1)).f1, (rd_T47 l0 (rd l1 x11_1)).f2⟩ : S47)]) l1 (l1.length : Int) (wrap64 (x11_1 + 1))) else (none)) else (none)) else (none))) = some (r1, r2) := by rw [if_pos rfl] at H; exact H
              clear H
              have H := H1
              clear H1
              by_cases c8 : x11_1 > 0
              · rw [if_pos c8] at H
                have c8b0 : decide (0 < x11_1) = true := decide_eq_true c8
                clear c8
                obtain ⟨ji9, hji9⟩ : ∃ j_ : Int, (wrap64 (x11_1 - 1)) = j_ := ⟨_, rfl⟩
                replace H : (if 0 ≤ (ji9) then (if (ji9) < (l1.length : Int) then (if (rd l1 (ji9)) ≥ (rd l1 x11_1) then (some (([] : List (S47)), false)) else (if 0 ≤ (rd l1 x11_1) then (if (rd l1 x11_1) < (l0.length : Int) then (if x6_1.length < 5864062014805 then (rooms_taken.l0 k1 l0 l1 (x6_1 ++ [(⟨(rd_T47 l0 (rd l1 x11_1)).f0, (rd_T47 l0 (rd l1 x11_1)).f1, (rd_T47 l0 (rd l1 x11_1)).f2⟩ : S47)]) l1 (l1.length : Int) (wrap64 (x11_1 + 1))) else (none)) else (none)) else (none))) else (none)) else (none)) = some (r1, r2) := by first | (rw [hji9] at H; exact H) | (simp only [hji9] at H ⊢; exact H)
                (try rw [hji9] at A6)
                have hji9w : (IntKind.i64.wrap (x11_1 - 1)) = ji9 := (i64_w _).trans hji9
                by_cases c10 : 0 ≤ (ji9)
                · rw [if_pos c10] at H
                  have c10b0 : decide (0 ≤ (ji9)) = true := decide_eq_true c10
                  clear c10
                  by_cases c11 : (ji9) < (l1.length : Int)
                  · rw [if_pos c11] at H
                    have c11b0 : decide ((ji9) < (l1.length : Int)) = true := decide_eq_true c11
                    clear c11
                    by_cases c12 : (rd l1 (ji9)) ≥ (rd l1 x11_1)
                    · rw [if_pos c12] at H
                      have c12b0 : decide ((rd l1 x11_1) ≤ (rd l1 (ji9))) = true := decide_eq_true c12
                      clear c12
                      simp only [Option.some.injEq, Prod.mk.injEq] at H
                      obtain ⟨rfl, rfl⟩ := H
                      have p129 : 0 ≤ (x11_1 : Int) := of_decide_eq_true (by first | (with_reducible assumption) | assumption)
                      have q129 : x11_1 < (l1.length : Int) := of_decide_eq_true (by first | (with_reducible assumption) | assumption)
                      obtain ⟨ad129, e129, hx129_0⟩ := Kd.at_int HR1.out x11_1 p129 q129
                      cases e129
                      replace hx129_0 := (HB.out.cell (World.block_lt_of_cell? w _ hx129_0)).trans hx129_0
                      replace p129 := eq_true p129
                      replace q129 := eq_true q129
                      go_wp2_with (first | ((with_reducible refine gate_callee (f := 42) rfl ?_); refine goesL_ (some 20) rfl rfl Try.func42 (by kernel_rfl) rfl #[.int .i64 (rd l1 x11_1), .int .i64 0, .int .i64 (wrap64 ((l0.length : Int) - 1))] rfl (by (try simp only [List.map_toArray, List.map_cons, List.map_nil]); first | done | rfl | (simp only [List.length_drop, List.length_take]; rfl)) ?_; (with_reducible refine (rooms_within.calls (rd l1 x11_1) 0 (wrap64 ((l0.length : Int) - 1)) true _ A6.out).mono ?_); rintro e w' ⟨rfl, ⟨nd, rfl⟩⟩; refine ⟨_, rfl, ?_⟩; have p131 : 0 ≤ ((ji9) : Int) := of_decide_eq_true (by first | (with_reducible assumption) | assumption); have q131 : (ji9) < (l1.length : Int) := of_decide_eq_true (by first | (with_reducible assumption) | assumption); obtain ⟨ad131, e131, hx131_0⟩ := Kd.at_int HR1.out (ji9) p131 q131; obtain rfl : ad129 = ad131 := (by injection e131); replace hx131_0 := (HB.out.cell (World.block_lt_of_cell? w _ hx131_0)).trans hx131_0; replace p131 := eq_true p131; replace q131 := eq_true q131))
                      go_ret2
                      exact ⟨_, by first | rfl | (simp [errW_none, errW_some] <;> rfl) | (simp only [← hji9]; first | rfl | (simp [errW_none, errW_some] <;> rfl)) | (simp [*, errW_none, errW_some] <;> rfl), by first | exact Kd.R_nil _ _ _ _ _ | exact Kd.N_nil _ _ _ _ _ | exact Kd.V_nil _ _ _ _ _ | exact Kd.Q_nil _ _ _ _ _ | exact Kd.S_nil _ _ _ _ _, by repeat (first | (with_reducible first | exact HB.out | apply below_alloc | apply pw_below_drewN | apply below_drew1) | exact HB.out)⟩
                    · rw [if_neg c12] at H
                      have c12b0 : decide ((rd l1 x11_1) ≤ (rd l1 (ji9))) = false := decide_eq_false c12
                      clear c12
                      by_cases c13 : 0 ≤ (rd l1 x11_1)
                      · rw [if_pos c13] at H
                        have c13b0 : decide (0 ≤ (rd l1 x11_1)) = true := decide_eq_true c13
                        clear c13
                        by_cases c14 : (rd l1 x11_1) < (l0.length : Int)
                        · rw [if_pos c14] at H
                          have c14b0 : decide ((rd l1 x11_1) < (l0.length : Int)) = true := decide_eq_true c14
                          clear c14
                          by_cases c15 : x6_1.length < 5864062014805
                          · rw [if_pos c15] at H
                            have LMc15 := Aside0.mk c15
                            clear c15
                            obtain ⟨y133, hy133⟩ : ∃ y_ : List (S47), y_ = (x6_1 ++ [(⟨(rd_T47 l0 (rd l1 x11_1)).f0, (rd_T47 l0 (rd l1 x11_1)).f1, (rd_T47 l0 (rd l1 x11_1)).f2⟩ : S47)]) := ⟨_, rfl⟩
                            replace H : (rooms_taken.l0 k1 l0 l1 y133 l1 (l1.length : Int) (wrap64 (x11_1 + 1))) = some (r1, r2) := by first | (rw [hy133]; with_reducible exact H) | (have H2_ := (Option.bind_some _ _).symm.trans H; rw [hy133]; with_reducible exact H2_) | (have H2_ := (Option.bind_some _ _).symm.trans H; with_reducible exact H2_) | with_reducible exact H | (rw [hy133]; exact H) | exact H
                            have Ny133 := Aside0.mk hy133
                            clear hy133
                            have H' := Aside0.mk H
                            clear H
                            have p129 : 0 ≤ (x11_1 : Int) := of_decide_eq_true (by first | (with_reducible assumption) | assumption)
                            have q129 : x11_1 < (l1.length : Int) := of_decide_eq_true (by first | (with_reducible assumption) | assumption)
                            obtain ⟨ad129, e129, hx129_0⟩ := Kd.at_int HR1.out x11_1 p129 q129
                            cases e129
                            replace hx129_0 := (HB.out.cell (World.block_lt_of_cell? w _ hx129_0)).trans hx129_0
                            replace p129 := eq_true p129
                            replace q129 := eq_true q129
                            go_wp2_with (first | ((with_reducible refine gate_callee (f := 42) rfl ?_); refine goesL_ (some 20) rfl rfl Try.func42 (by kernel_rfl) rfl #[.int .i64 (rd l1 x11_1), .int .i64 0, .int .i64 (wrap64 ((l0.length : Int) - 1))] rfl (by (try simp only [List.map_toArray, List.map_cons, List.map_nil]); first | done | rfl | (simp only [List.length_drop, List.length_take]; rfl)) ?_; (with_reducible refine (rooms_within.calls (rd l1 x11_1) 0 (wrap64 ((l0.length : Int) - 1)) true _ A6.out).mono ?_); rintro e w' ⟨rfl, ⟨nd, rfl⟩⟩; refine ⟨_, rfl, ?_⟩; have p131 : 0 ≤ ((ji9) : Int) := of_decide_eq_true (by first | (with_reducible assumption) | assumption); have q131 : (ji9) < (l1.length : Int) := of_decide_eq_true (by first | (with_reducible assumption) | assumption); obtain ⟨ad131, e131, hx131_0⟩ := Kd.at_int HR1.out (ji9) p131 q131; obtain rfl : ad129 = ad131 := (by injection e131); replace hx131_0 := (HB.out.cell (World.block_lt_of_cell? w _ hx131_0)).trans hx131_0; replace p131 := eq_true p131; replace q131 := eq_true q131; have p132 : 0 ≤ ((rd l1 x11_1) : Int) := of_decide_eq_true (by first | (with_reducible assumption) | assumption); have q132 : (rd l1 x11_1) < (l0.length : Int) := of_decide_eq_true (by first | (with_reducible assumption) | assumption); obtain ⟨ad132, e132, hx132_0, hx132_1, hx132_2⟩ := at_T47 HR0.out (rd l1 x11_1) p132 q132; cases e132; replace hx132_0 := (HB.out.cell (World.block_lt_of_cell? w _ hx132_0)).trans hx132_0; replace hx132_1 := (HB.out.cell (World.block_lt_of_cell? w _ hx132_1)).trans hx132_1; replace hx132_2 := (HB.out.cell (World.block_lt_of_cell? w _ hx132_2)).trans hx132_2; replace p132 := eq_true p132; replace q132 := eq_true q132) | ((with_reducible refine gate_builtin (b := .append) (xs := #[.tmp 35, .tmp 40]) rfl ?_); at_builtin; refine Kd.R_append k47 (w0 := w) w.heap.size rfl (.tmp 35) (.tmp 40) 22 47 (.agg #[(.int .i64 0), (.int .i64 0), (.int .i64 0)]) 24 rfl Try.underlying22 info47 rfl (by decide) (by omega) u6 x6_1 (⟨(rd_T47 l0 (rd l1 x11_1)).f0, (rd_T47 l0 (rd l1 x11_1)).f1, (rd_T47 l0 (rd l1 x11_1)).f2⟩ : S47) [.int .i64 ((rd_T47 l0 (rd l1 x11_1)).f0), .int .i64 ((rd_T47 l0 (rd l1 x11_1)).f1), .int .i64 ((rd_T47 l0 (rd l1 x11_1)).f2)] (fun _ => True) (fun _ => False) rfl rfl ?aP (fun _ hk => hk.elim) ?aF ?aO ?aB ?aS ?aL ?_; (case aP => exact k47_mkM _ _ _ (⟨(rd_T47 l0 (rd l1 x11_1)).f0, (rd_T47 l0 (rd l1 x11_1)).f1, (rd_T47 l0 (rd l1 x11_1)).f2⟩ : S47)); (case aB => exact (by repeat (first | (with_reducible first | exact HB.out | apply below_alloc | apply pw_below_drewN | apply below_drew1) | exact HB.out))); (case aF => exact (fun _ _ => trivial)); (case aO => exact (by (with_reducible repeat (first | apply Kd.R_alloc | apply Kd.R_drewN | apply Kd.R_drew)); exact HO_6.out)); (case aS => exact (below_size (by repeat (first | (with_reducible first | exact HB.out | apply below_alloc | apply pw_below_drewN | apply below_drew1) | exact HB.out)))); (case aL => have := LMc15.out; omega); intro v134 w16 ho hb hg hat; rw [← Ny133.out] at ho; have n0_ := Aside0.mk (hb); have n1_ := Aside0.mk (ho); clear HB; clear HO_6; have HB := n0_; have HO135 := n1_; clear n0_ n1_; clear ho hb hg hat))
                            go_roundg k1
                            case measure => have := HK1.out; omega
                            case rel => exact ⟨(y133), (wrap64 (x11_1 + 1)), (by first | rfl | (simp; done) | (simp [*]; done)), H', ⟨by have := HK1.out; omega⟩, ⟨by (with_reducible repeat (first | apply Kd.R_alloc | apply Kd.R_drewN | apply Kd.R_drew)); exact HO135.out⟩, ⟨by repeat (first | (with_reducible first | exact HB.out | apply below_alloc | apply pw_below_drewN | apply below_drew1) | exact HB.out)⟩⟩
                          · rw [if_neg c15] at H
                            exact absurd H (by simp)
                        · rw [if_neg c14] at H
                          exact absurd H (by simp)
                      · rw [if_neg c13] at H
                        exact absurd H (by simp)
                  · rw [if_neg c11] at H
                    exact absurd H (by simp)
                · rw [if_neg c10] at H
                  exact absurd H (by simp)
              · rw [if_neg c8] at H
                have c8b0 : decide (0 < x11_1) = false := decide_eq_false c8
                clear c8
                by_cases c17 : 0 ≤ (rd l1 x11_1)
                · rw [if_pos c17] at H
                  have c17b0 : decide (0 ≤ (rd l1 x11_1)) = true := decide_eq_true c17
                  clear c17
                  by_cases c18 : (rd l1 x11_1) < (l0.length : Int)
                  · rw [if_pos c18] at H
                    have c18b0 : decide ((rd l1 x11_1) < (l0.length : Int)) = true := decide_eq_true c18
                    clear c18
                    by_cases c19 : x6_1.length < 5864062014805
                    · rw [if_pos c19] at H
                      have LMc19 := Aside0.mk c19
                      clear c19
                      obtain ⟨y137, hy137⟩ : ∃ y_ : List (S47), y_ = (x6_1 ++ [(⟨(rd_T47 l0 (rd l1 x11_1)).f0, (rd_T47 l0 (rd l1 x11_1)).f1, (rd_T47 l0 (rd l1 x11_1)).f2⟩ : S47)]) := ⟨_, rfl⟩
                      replace H : (rooms_taken.l0 k1 l0 l1 y137 l1 (l1.length : Int) (wrap64 (x11_1 + 1))) = some (r1, r2) := by first | (rw [hy137]; with_reducible exact H) | (have H2_ := (Option.bind_some _ _).symm.trans H; rw [hy137]; with_reducible exact H2_) | (have H2_ := (Option.bind_some _ _).symm.trans H; with_reducible exact H2_) | with_reducible exact H | (rw [hy137]; exact H) | exact H
                      have Ny137 := Aside0.mk hy137
                      clear hy137
                      have H' := Aside0.mk H
                      clear H
                      have p129 : 0 ≤ (x11_1 : Int) := of_decide_eq_true (by first | (with_reducible assumption) | assumption)
                      have q129 : x11_1 < (l1.length : Int) := of_decide_eq_true (by first | (with_reducible assumption) | assumption)
                      obtain ⟨ad129, e129, hx129_0⟩ := Kd.at_int HR1.out x11_1 p129 q129
                      cases e129
                      replace hx129_0 := (HB.out.cell (World.block_lt_of_cell? w _ hx129_0)).trans hx129_0
                      replace p129 := eq_true p129
                      replace q129 := eq_true q129
                      go_wp2_with (first | ((with_reducible refine gate_callee (f := 42) rfl ?_); refine goesL_ (some 20) rfl rfl Try.func42 (by kernel_rfl) rfl #[.int .i64 (rd l1 x11_1), .int .i64 0, .int .i64 (wrap64 ((l0.length : Int) - 1))] rfl (by (try simp only [List.map_toArray, List.map_cons, List.map_nil]); first | done | rfl | (simp only [List.length_drop, List.length_take]; rfl)) ?_; (with_reducible refine (rooms_within.calls (rd l1 x11_1) 0 (wrap64 ((l0.length : Int) - 1)) true _ A6.out).mono ?_); rintro e w' ⟨rfl, ⟨nd, rfl⟩⟩; refine ⟨_, rfl, ?_⟩; have p136 : 0 ≤ ((rd l1 x11_1) : Int) := of_decide_eq_true (by first | (with_reducible assumption) | assumption); have q136 : (rd l1 x11_1) < (l0.length : Int) := of_decide_eq_true (by first | (with_reducible assumption) | assumption); obtain ⟨ad136, e136, hx136_0, hx136_1, hx136_2⟩ := at_T47 HR0.out (rd l1 x11_1) p136 q136; cases e136; replace hx136_0 := (HB.out.cell (World.block_lt_of_cell? w _ hx136_0)).trans hx136_0; replace hx136_1 := (HB.out.cell (World.block_lt_of_cell? w _ hx136_1)).trans hx136_1; replace hx136_2 := (HB.out.cell (World.block_lt_of_cell? w _ hx136_2)).trans hx136_2; replace p136 := eq_true p136; replace q136 := eq_true q136) | ((with_reducible refine gate_builtin (b := .append) (xs := #[.tmp 35, .tmp 40]) rfl ?_); at_builtin; refine Kd.R_append k47 (w0 := w) w.heap.size rfl (.tmp 35) (.tmp 40) 22 47 (.agg #[(.int .i64 0), (.int .i64 0), (.int .i64 0)]) 24 rfl Try.underlying22 info47 rfl (by decide) (by omega) u6 x6_1 (⟨(rd_T47 l0 (rd l1 x11_1)).f0, (rd_T47 l0 (rd l1 x11_1)).f1, (rd_T47 l0 (rd l1 x11_1)).f2⟩ : S47) [.int .i64 ((rd_T47 l0 (rd l1 x11_1)).f0), .int .i64 ((rd_T47 l0 (rd l1 x11_1)).f1), .int .i64 ((rd_T47 l0 (rd l1 x11_1)).f2)] (fun _ => True) (fun _ => False) rfl rfl ?aP (fun _ hk => hk.elim) ?aF ?aO ?aB ?aS ?aL ?_; (case aP => exact k47_mkM _ _ _ (⟨(rd_T47 l0 (rd l1 x11_1)).f0, (rd_T47 l0 (rd l1 x11_1)).f1, (rd_T47 l0 (rd l1 x11_1)).f2⟩ : S47)); (case aB => exact (by repeat (first | (with_reducible first | exact HB.out | apply below_alloc | apply pw_below_drewN | apply below_drew1) | exact HB.out))); (case aF => exact (fun _ _ => trivial)); (case aO => exact (by (with_reducible repeat (first | apply Kd.R_alloc | apply Kd.R_drewN | apply Kd.R_drew)); exact HO_6.out)); (case aS => exact (below_size (by repeat (first | (with_reducible first | exact HB.out | apply below_alloc | apply pw_below_drewN | apply below_drew1) | exact HB.out)))); (case aL => have := LMc19.out; omega); intro v138 w20 ho hb hg hat; rw [← Ny137.out] at ho; have n0_ := Aside0.mk (hb); have n1_ := Aside0.mk (ho); clear HB; clear HO_6; have HB := n0_; have HO139 := n1_; clear n0_ n1_; clear ho hb hg hat))
                      go_roundg k1
                      case measure => have := HK1.out; omega
                      case rel => exact ⟨(y137), (wrap64 (x11_1 + 1)), (by first | rfl | (simp; done) | (simp [*]; done)), H', ⟨by have := HK1.out; omega⟩, ⟨by (with_reducible repeat (first | apply Kd.R_alloc | apply Kd.R_drewN | apply Kd.R_drew)); exact HO139.out⟩, ⟨by repeat (first | (with_reducible first | exact HB.out | apply below_alloc | apply pw_below_drewN | apply below_drew1) | exact HB.out)⟩⟩
                    · rw [if_neg c19] at H
                      exact absurd H (by simp)
                  · rw [if_neg c18] at H
                    exact absurd H (by simp)
                · rw [if_neg c17] at H
                  exact absurd H (by simp)
            · replace c7 := Bool.eq_false_iff.mpr c7
              subst c7
              have H1 : (some (([] : List (S47)), false)) = some (r1, r2) := by rw [if_neg (show ¬ (false = true) by decide)] at H; exact H
              clear H
              have H := H1
              clear H1
              simp only [Option.some.injEq, Prod.mk.injEq] at H
              obtain ⟨rfl, rfl⟩ := H
              have p129 : 0 ≤ (x11_1 : Int) := of_decide_eq_true (by first | (with_reducible assumption) | assumption)
              have q129 : x11_1 < (l1.length : Int) := of_decide_eq_true (by first | (with_reducible assumption) | assumption)
              obtain ⟨ad129, e129, hx129_0⟩ := Kd.at_int HR1.out x11_1 p129 q129
              cases e129
              replace hx129_0 := (HB.out.cell (World.block_lt_of_cell? w _ hx129_0)).trans hx129_0
              replace p129 := eq_true p129
              replace q129 := eq_true q129
              go_wp2_with (first | ((with_reducible refine gate_callee (f := 42) rfl ?_); refine goesL_ (some 20) rfl rfl Try.func42 (by kernel_rfl) rfl #[.int .i64 (rd l1 x11_1), .int .i64 0, .int .i64 (wrap64 ((l0.length : Int) - 1))] rfl (by (try simp only [List.map_toArray, List.map_cons, List.map_nil]); first | done | rfl | (simp only [List.length_drop, List.length_take]; rfl)) ?_; (with_reducible refine (rooms_within.calls (rd l1 x11_1) 0 (wrap64 ((l0.length : Int) - 1)) false _ A6.out).mono ?_); rintro e w' ⟨rfl, ⟨nd, rfl⟩⟩; refine ⟨_, rfl, ?_⟩))
              go_ret2
              exact ⟨_, by first | rfl | (simp [errW_none, errW_some] <;> rfl) | (simp [*, errW_none, errW_some] <;> rfl), by first | exact Kd.R_nil _ _ _ _ _ | exact Kd.N_nil _ _ _ _ _ | exact Kd.V_nil _ _ _ _ _ | exact Kd.Q_nil _ _ _ _ _ | exact Kd.S_nil _ _ _ _ _, by repeat (first | (with_reducible first | exact HB.out | apply below_alloc | apply pw_below_drewN | apply below_drew1) | exact HB.out)⟩
          · rw [if_neg c5] at H
            exact absurd H (by simp)
        · rw [if_neg c4] at H
          exact absurd H (by simp)
      · rw [if_neg c3] at H
        have c3b0 : decide (x11_1 < (l1.length : Int)) = false := decide_eq_false c3
        clear c3
        simp only [Option.some.injEq, Prod.mk.injEq] at H
        obtain ⟨rfl, rfl⟩ := H
        go_wp2
        go_ret2
        exact ⟨_, by first | rfl | (simp [errW_none, errW_some] <;> rfl) | (simp [*, errW_none, errW_some] <;> rfl), by (with_reducible repeat (first | apply Kd.R_alloc | apply Kd.R_drewN | apply Kd.R_drew)); exact HO_6.out, by repeat (first | (with_reducible first | exact HB.out | apply below_alloc | apply pw_below_drewN | apply below_drew1) | exact HB.out)⟩
end Go.Proofs.Ytpjobcnfjpbaeaa.PA
