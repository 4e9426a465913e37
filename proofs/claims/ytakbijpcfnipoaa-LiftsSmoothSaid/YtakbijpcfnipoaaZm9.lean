/- What the statements of this seat lean on: the functions that they reach, walked. -/
import Derived.Test.YtakbijpcfnipoaaZm8
set_option linter.unusedSimpArgs false
set_option linter.unusedVariables false

namespace Go.Proofs.Ytakbijpcfnipoaa.PA
open Go.RowKit Go.Proofs.YtakbijpcfnipoaaW.PrintWords Go.Proofs.YtakbijpcfnipoaaW.PrintLast Go.Proofs.YtakbijpcfnipoaaW.PrintMore
attribute [local go_sem] max2_int min2_int max_two min_two max_three min_three max_four min_four
set_option linter.unusedVariables false
set_option linter.unusedSimpArgs false
mutual
def turndownlaw07_tame.l0 : Nat → List Int → Int → List Int → Int → Option (List Int)
 | 0, _, _, _, _ => none
 | k + 1, x0, x1, x5, x6 => if x6 < x1 then (if x6 < (x0.length : Int) then (if 0 ≤ x6 then ((turndownlaw07_mod.f (rd x0 x6) 31).bind fun t422 => (turndownlaw07_tame.j1 k x0 x1 x5 x6 t422)) else (none)) else (turndownlaw07_tame.j1 k x0 x1 x5 x6 (wrap64 (5 * x6)))) else (some x5)
def turndownlaw07_tame.j1 : Nat → List Int → Int → List Int → Int → Int → Option (List Int)
 | 0, _, _, _, _, _ => none
 | k + 1, x0, x1, x5, x6, x7 => turndownlaw07_tame.l1 k x0 x1 x5 x6 x7 x6
def turndownlaw07_tame.l1 : Nat → List Int → Int → List Int → Int → Int → Int → Option (List Int)
 | 0, _, _, _, _, _, _ => none
 | k + 1, x0, x1, x5, x6, x7, x8 => if x8 > 0 then (if 0 ≤ (wrap64 (x8 - 1)) then (if (wrap64 (x8 - 1)) < (x5.length : Int) then (if (rd x5 (wrap64 (x8 - 1))) > x7 then (if 0 ≤ x8 then (if x8 < (x5.length : Int) then (turndownlaw07_tame.l1 k x0 x1 (x5.set (x8 : Int).toNat (rd x5 (wrap64 (x8 - 1)))) x6 x7 (wrap64 (x8 - 1))) else (none)) else (none)) else (if 0 ≤ x8 then (if x8 < (x5.length : Int) then (turndownlaw07_tame.l0 k x0 x1 (x5.set (x8 : Int).toNat x7) (wrap64 (x6 + 1))) else (none)) else (none))) else (none)) else (none)) else (if 0 ≤ x8 then (if x8 < (x5.length : Int) then (turndownlaw07_tame.l0 k x0 x1 (x5.set (x8 : Int).toNat x7) (wrap64 (x6 + 1))) else (none)) else (none))
end
def turndownlaw07_tame.f (k : Nat) (l0 : List Int) (a1 : Int) : Option (List Int) := if 0 ≤ a1 then (if (a1 : Int).toNat ≤ 35184372088832 then (turndownlaw07_tame.l0 k l0 a1 (List.replicate (a1 : Int).toNat 0) 0) else (none)) else (none)
set_option maxHeartbeats 8000000 in
set_option maxRecDepth 100000 in
theorem turndownlaw07_tame.calls (k : Nat) (A0 : Option Addr) (c0 : Nat) (l0 : List Int) (a1 : Int) (r : List Int) (w : World) (hr0 : Kd.C (Kd.int .i64) w A0 l0.length l0) (hc0 : l0.length ≤ c0) (h : turndownlaw07_tame.f k l0 a1 = some r) :
  Calls Try.prog 31 #[.slice A0 l0.length c0, .int .i64 a1] w fun e w' => ∃ v0_ : Value, e = .returned (v0_) ∧ Kd.R (Kd.int .i64) 3 w' w.heap.size (fun _ => True) v0_ r ∧ Below w.heap.size w w' := by
 have HR0 := Aside0.mk hr0
 have HC0 := Aside0.mk hc0
 clear hr0 hc0
 have HB := Aside0.mk (Below.refl w.heap.size w)
 have H : (if 0 ≤ a1 then (if (a1 : Int).toNat ≤ 35184372088832 then (turndownlaw07_tame.l0 k l0 a1 (List.replicate (a1 : Int).toNat 0) 0) else (none)) else (none)) = some r := h
 clear h
 by_cases c3 : 0 ≤ a1
 ·
  rw [if_pos c3] at H
  have c3b0 := eq_true c3
  have c3b1 : decide (0 ≤ a1) = true := decide_eq_true c3
  clear c3
  by_cases c4 : (a1 : Int).toNat ≤ 35184372088832
  ·
   rw [if_pos c4] at H
   have c4b0 := eq_true c4
   have c4b1 : decide ((a1 : Int).toNat ≤ 35184372088832) = true := decide_eq_true c4
   clear c4
   obtain ⟨y418, hy418⟩ : ∃ y_ : List Int, y_ = (List.replicate (a1 : Int).toNat 0) := ⟨_, rfl⟩
   replace H : (turndownlaw07_tame.l0 k l0 a1 y418 0) = some r := by first | (rw [hy418]; with_reducible exact H) | (have H2_ := (Option.bind_some _ _).symm.trans H; rw [hy418]; with_reducible exact H2_) | (have H2_ := (Option.bind_some _ _).symm.trans H; with_reducible exact H2_) | with_reducible exact H | (rw [hy418]; exact H) | exact H
   have Ny418 := Aside0.mk hy418
   clear hy418
   have H' := Aside0.mk H
   clear H
   go_enter Try.func31, Try.ntmps31
   go_wp2_with (first | ((with_reducible refine gate_dst (N := 10) rfl ?_); refine Kd.R_make (Kd.int .i64) _ 3 rfl (N := 10) rfl 22 _ _ rfl a1 rfl rfl Try.underlying22 (.int .i64 0) 8 info3 rfl (by decide) (by omega) 0 (ok := fun _ => True) (okp := fun _ => True) rfl (fun _ hk => hk) trivial (of_decide_eq_true (by first | (with_reducible assumption) | assumption)) (Nat.le_trans (Nat.mul_le_mul_right _ (of_decide_eq_true (by first | (with_reducible assumption) | assumption) : a1.toNat ≤ 35184372088832)) (by omega)) (Below.refl _ _) (Nat.le_refl _) ?_; intro v419 w5 ho6 hb hg_ hnew_; clear hg_ hnew_; (first | rw [← Ny418.out] at ho6 | (simp only [Int.reduceToNat] at ho6; rw [← Ny418.out] at ho6)); have n0_ := Aside0.mk (Kd.R_lower ho6 (below_size (by repeat (first | (with_reducible first | exact HB.out | apply below_alloc | apply pw_below_drewN | apply below_drew1) | exact HB.out)))); have n1_ := Aside0.mk (below_step (by repeat (first | (with_reducible first | exact HB.out | apply below_alloc | apply pw_below_drewN | apply below_drew1) | exact HB.out)) hb); clear HB; have HO420 := n0_; have HB := n1_; clear n0_ n1_; clear hb ho6))
   go_loopg [6] k (fun kq v6 w' => ∃ (x5_1 : List Int) (x6_1 : Int), v6 = .int .i64 x6_1 ∧ Aside0 (turndownlaw07_tame.l0 kq l0 a1 x5_1 x6_1 = some r) ∧ Aside0 (kq ≤ k) ∧ Aside0 (Kd.R (Kd.int .i64) 3 w' w.heap.size (fun _ => True) v419 x5_1) ∧ Aside0 (Below w.heap.size w w'))
   case atStart => exact ⟨(y418), (0), (by first | rfl | (simp; done) | (simp [*]; done)), H', ⟨Nat.le_refl _⟩, ⟨by (with_reducible repeat (first | apply Kd.R_alloc | apply Kd.R_drewN | apply Kd.R_drew)); exact HO420.out⟩, ⟨by repeat (first | (with_reducible first | exact HB.out | apply below_alloc | apply pw_below_drewN | apply below_drew1) | exact HB.out)⟩⟩
   case round =>
    clear H'
    try clear p2
    try clear c3
    try clear c3b0
    try clear c3b1
    try clear c4
    try clear c4b0
    try clear c4b1
    obtain ⟨x5_1, x6_1, rfl, HA, HK1, HO_5, HB⟩ := hrel
    cases gk with
    | zero => exact absurd HA.out (by simp [turndownlaw07_tame.l0])
    | succ k1 =>
     have H := HA.out
     clear HA
     simp only [turndownlaw07_tame.l0] at H
     by_cases c7 : x6_1 < a1
     ·
      rw [if_pos c7] at H
      have c7b0 : decide (x6_1 < a1) = true := decide_eq_true c7
      clear c7
      have HC8 := Aside0.mk H
      clear H
      go_upto_if 21 with (fail)
      go_cut [7] (fun v7 wc => ∃ (kq : Nat) (x7_7 : Int), v7 = .int .i64 x7_7 ∧ Aside0 (turndownlaw07_tame.j1 kq l0 a1 x5_1 x6_1 x7_7 = some r) ∧ Aside0 (kq ≤ k1) ∧ Aside0 (Kd.R (Kd.int .i64) 3 wc w.heap.size (fun _ => True) v419 x5_1) ∧ Aside0 (Below w.heap.size w wc))
      case first =>
       have H := HC8.out
       clear HC8
       by_cases c9 : x6_1 < (l0.length : Int)
       ·
        rw [if_pos c9] at H
        have c9b0 : decide (x6_1 < (l0.length : Int)) = true := decide_eq_true c9
        clear c9
        (first | rw [c9b0] | (simp only [i64_w, i32_w]; rw [c9b0]) | skip)
        by_cases c10 : 0 ≤ x6_1
        ·
         rw [if_pos c10] at H
         have c10b0 : decide (0 ≤ x6_1) = true := decide_eq_true c10
         clear c10
         replace H := Option.bind_eq_some_iff.mp H
         obtain ⟨t422, A110, H⟩ := H
         replace H : (turndownlaw07_tame.j1 k1 l0 a1 x5_1 x6_1 t422) = some r := H
         have A11 := Aside0.mk A110
         clear A110
         have H' := Aside0.mk H
         clear H
         have p421 : 0 ≤ (x6_1 : Int) := of_decide_eq_true (by first | (with_reducible assumption) | assumption)
         have q421 : x6_1 < (l0.length : Int) := of_decide_eq_true (by first | (with_reducible assumption) | assumption)
         obtain ⟨ad421, e421, hx421_0⟩ := Kd.at_int HR0.out x6_1 p421 q421
         cases e421
         replace hx421_0 := (HB.out.cell (World.block_lt_of_cell? w _ hx421_0)).trans hx421_0
         replace p421 := eq_true p421
         replace q421 := eq_true q421
         go_wp2_with (first | ((with_reducible refine gate_callee (f := 36) rfl ?_); refine goesL_ (some 26) rfl rfl Try.func36 (by kernel_rfl) rfl #[.int .i64 (rd l0 x6_1), .int .i64 31] rfl (by (try simp only [List.map_toArray, List.map_cons, List.map_nil]); first | done | rfl | (simp only [List.length_drop, List.length_take]; rfl)) ?_; (with_reducible refine (turndownlaw07_mod.calls (rd l0 x6_1) 31 t422 _ A11.out).mono ?_); rintro e w' ⟨rfl, ⟨nd, rfl⟩⟩; refine ⟨_, rfl, ?_⟩))
         go_meet
         case rel => exact ⟨_, (t422), (by first | rfl | (simp; done) | (simp [*]; done)), H', ⟨by have := HK1.out; first | omega | exact Nat.le_refl _⟩, ⟨by (with_reducible repeat (first | apply Kd.R_alloc | apply Kd.R_drewN | apply Kd.R_drew)); exact HO_5.out⟩, ⟨by repeat (first | (with_reducible first | exact HB.out | apply below_alloc | apply pw_below_drewN | apply below_drew1) | exact HB.out)⟩⟩
        ·
         rw [if_neg c10] at H
         exact absurd H (by simp)
       ·
        rw [if_neg c9] at H
        have c9b0 : decide (x6_1 < (l0.length : Int)) = false := decide_eq_false c9
        clear c9
        (first | rw [c9b0] | (simp only [i64_w, i32_w]; rw [c9b0]) | skip)
        have H' := Aside0.mk H
        clear H
        go_wp2
        go_meet
        case rel => exact ⟨_, (wrap64 (5 * x6_1)), (by first | rfl | (simp; done) | (simp [*]; done)), H', ⟨by have := HK1.out; first | omega | exact Nat.le_refl _⟩, ⟨by (with_reducible repeat (first | apply Kd.R_alloc | apply Kd.R_drewN | apply Kd.R_drew)); exact HO_5.out⟩, ⟨by repeat (first | (with_reducible first | exact HB.out | apply below_alloc | apply pw_below_drewN | apply below_drew1) | exact HB.out)⟩⟩
      case rest =>
       clear HC8
       try clear c1
       try clear p2
       try clear c3
       try clear c3b0
       try clear c3b1
       try clear c4
       try clear c4b0
       try clear c4b1
       try clear p4
       try clear q4
       try clear hx4
       try clear p6
       try clear c7
       try clear c7b0
       try clear c9
       try clear c9b0
       try clear c10
       try clear c10b0
       try clear hx421_0
       try clear p2
       try clear p421
       try clear q421
       obtain ⟨kq, x7_7, rfl, HA, HJ7, HO_5, HB⟩ := hcut
       cases kq with
       | zero => exact absurd HA.out (by simp [turndownlaw07_tame.j1])
       | succ kj7 =>
        have H := HA.out
        clear HA
        simp only [turndownlaw07_tame.j1] at H
        have H' := Aside0.mk H
        clear H
        go_wp2
        go_loopg [8] kj7 (fun kq v8 w' => ∃ (x5_3 : List Int) (x8_3 : Int), v8 = .int .i64 x8_3 ∧ Aside0 (turndownlaw07_tame.l1 kq l0 a1 x5_3 x6_1 x7_7 x8_3 = some r) ∧ Aside0 (kq ≤ kj7) ∧ Aside0 (Kd.R (Kd.int .i64) 3 w' w.heap.size (fun _ => True) v419 x5_3) ∧ Aside0 (Below w.heap.size w w'))
        case atStart => exact ⟨(x5_1), (x6_1), (by first | rfl | (simp; done) | (simp [*]; done)), H', ⟨Nat.le_refl _⟩, ⟨by (with_reducible repeat (first | apply Kd.R_alloc | apply Kd.R_drewN | apply Kd.R_drew)); exact HO_5.out⟩, ⟨by repeat (first | (with_reducible first | exact HB.out | apply below_alloc | apply pw_below_drewN | apply below_drew1) | exact HB.out)⟩⟩
        case round =>
         clear H'
         try clear c1
         try clear p2
         try clear c3
         try clear c3b0
         try clear c3b1
         try clear c4
         try clear c4b0
         try clear c4b1
         try clear p4
         try clear q4
         try clear hx4
         try clear p6
         try clear c7
         try clear c7b0
         try clear c9
         try clear c9b0
         try clear c10
         try clear c10b0
         try clear hx421_0
         try clear p2
         try clear p4
         try clear p421
         try clear p6
         try clear q4
         try clear q421
         obtain ⟨x5_3, x8_3, rfl, HA, HK3, HO_5, HB⟩ := hrel
         cases gk with
         | zero => exact absurd HA.out (by simp [turndownlaw07_tame.l1])
         | succ k3 =>
          have H := HA.out
          clear HA
          simp only [turndownlaw07_tame.l1] at H
          by_cases c12 : x8_3 > 0
          ·
           rw [if_pos c12] at H
           have c12b0 : decide (0 < x8_3) = true := decide_eq_true c12
           clear c12
           obtain ⟨ji13, hji13⟩ : ∃ j_ : Int, (wrap64 (x8_3 - 1)) = j_ := ⟨_, rfl⟩
           replace H : (if 0 ≤ (ji13) then (if (ji13) < (x5_3.length : Int) then (if (rd x5_3 (ji13)) > x7_7 then (if 0 ≤ x8_3 then (if x8_3 < (x5_3.length : Int) then (turndownlaw07_tame.l1 k3 l0 a1 (x5_3.set (x8_3 : Int).toNat (rd x5_3 (ji13))) x6_1 x7_7 ji13) else (none)) else (none)) else (if 0 ≤ x8_3 then (if x8_3 < (x5_3.length : Int) then (turndownlaw07_tame.l0 k3 l0 a1 (x5_3.set (x8_3 : Int).toNat x7_7) (wrap64 (x6_1 + 1))) else (none)) else (none))) else (none)) else (none)) = some r := by first | (rw [hji13] at H; exact H) | (simp only [hji13] at H ⊢; exact H)
           have hji13w : (IntKind.i64.wrap (x8_3 - 1)) = ji13 := (i64_w _).trans hji13
           by_cases c14 : 0 ≤ (ji13)
           ·
            rw [if_pos c14] at H
            have c14b0 : decide (0 ≤ (ji13)) = true := decide_eq_true c14
            clear c14
            by_cases c15 : (ji13) < (x5_3.length : Int)
            ·
             rw [if_pos c15] at H
             have c15b0 : decide ((ji13) < (x5_3.length : Int)) = true := decide_eq_true c15
             clear c15
             by_cases c16 : (rd x5_3 (ji13)) > x7_7
             ·
              rw [if_pos c16] at H
              have c16b0 : decide (x7_7 < (rd x5_3 (ji13))) = true := decide_eq_true c16
              clear c16
              by_cases c17 : 0 ≤ x8_3
              ·
               rw [if_pos c17] at H
               have c17b0 : decide (0 ≤ x8_3) = true := decide_eq_true c17
               clear c17
               by_cases c18 : x8_3 < (x5_3.length : Int)
               ·
                rw [if_pos c18] at H
                have c18b0 : decide (x8_3 < (x5_3.length : Int)) = true := decide_eq_true c18
                clear c18
                obtain ⟨y425, hy425⟩ : ∃ y_ : List Int, y_ = (x5_3.set (x8_3 : Int).toNat (rd x5_3 (ji13))) := ⟨_, rfl⟩
                replace H : (turndownlaw07_tame.l1 k3 l0 a1 y425 x6_1 x7_7 ji13) = some r := by first | (rw [hy425]; with_reducible exact H) | (have H2_ := (Option.bind_some _ _).symm.trans H; rw [hy425]; with_reducible exact H2_) | (have H2_ := (Option.bind_some _ _).symm.trans H; with_reducible exact H2_) | with_reducible exact H | (rw [hy425]; exact H) | exact H
                have Ny425 := Aside0.mk hy425
                clear hy425
                have H' := Aside0.mk H
                clear H
                obtain ⟨Ao20, co20, eo20⟩ := Kd.R_slice HO_5.out
                subst eo20
                have p423 : 0 ≤ ((ji13) : Int) := of_decide_eq_true (by first | (with_reducible assumption) | assumption)
                have q423 : (ji13) < (x5_3.length : Int) := of_decide_eq_true (by first | (with_reducible assumption) | assumption)
                obtain ⟨ad423, e423, hx423_0⟩ := Kd.at_int (Kd.R_reads' HO_5.out).2.2 (ji13) p423 q423
                cases e423
                replace p423 := eq_true p423
                replace q423 := eq_true q423
                have p424 : 0 ≤ ((ji13) : Int) := of_decide_eq_true (by first | (with_reducible assumption) | assumption)
                have q424 : (ji13) < (x5_3.length : Int) := of_decide_eq_true (by first | (with_reducible assumption) | assumption)
                obtain ⟨ad424, e424, hx424_0⟩ := Kd.at_int (Kd.R_reads' HO_5.out).2.2 (ji13) p424 q424
                obtain rfl : ad423 = ad424 := (by injection e424)
                replace p424 := eq_true p424
                replace q424 := eq_true q424
                have p19 : 0 ≤ (x8_3 : Int) := of_decide_eq_true (by first | (with_reducible assumption) | assumption)
                have q19 : (x8_3 : Int) < ((x5_3.length : Int) : Int) := of_decide_eq_true (by first | (with_reducible assumption) | assumption)
                obtain ⟨go19, co19, eo19, gb19, gl19, cl19, HG19⟩ := Kd.R_form HO_5.out (by omega)
                (first | cases eo19 | (injection eo19 with ea_ en_ ec_; (first | subst ea_ | (injection ea_ with ea_; subst ea_)); subst ec_; clear en_))
                have GB19 := Aside0.mk gb19
                have GG19 := Aside0.mk HG19
                clear gb19 gl19 HG19
                (first | simp only [add_plain] at hx423_0 | skip)
                (first | simp only [add_plain] at hx424_0 | skip)
                obtain ⟨hx19_0, hf19_0⟩ := Kd.R_celln 0 HO_5.out (x8_3 : Int) p19 q19
                replace p19 := eq_true p19
                replace q19 := eq_true q19
                have HP21 := Kd.R_putg HO_5.out (x8_3 : Int) (rd x5_3 (ji13))
                go_wp2_with (first | ((with_reducible refine gate_store (t := 3) (p := 46) rfl ?_); refine store_event (t := 3) (p := 46) (v := ?vo_w22) (w1 := (wr.setCell ⟨go19, (x8_3 : Int).toNat, none⟩ (.int .i64 (rd x5_3 (ji13))))) ?hg ?ho ?hn ?hr ?_; (case ho => rfl); (case hg => rfl); (case hn => rfl); (case hr => first | (go_simp; done) | (go_simp; rfl)); intro w22 hw; have hg : wr.grownBy w22 (some go19) := (by rw [hw]; exact HP21.2); have hp_ : Kd.R (Kd.int .i64) 3 w22 w.heap.size (fun _ => True) (.slice (some ⟨go19, 0, none⟩) x5_3.length co20) y425 := (by rw [hw, Ny425.out]; exact HP21.1); clear HP21; have n0_ := Aside0.mk (hp_); have n1_ := Aside0.mk ((by rw [hw]; exact below_set (HB.out) GB19.out : Below w.heap.size w w22)); clear HO_5; clear HB; have HO_5 := n0_; have HB := n1_; clear n0_ n1_; clear hg hw hp_))
                go_roundg k3
                case measure => have := HK1.out; have := HJ7.out; have := HK3.out; omega
                case rel => exact ⟨(y425), (ji13), (by first | rfl | (simp; done) | (simp only [← hji13] <;> (first | rfl | simp)) | (simp [*]; done)), H', ⟨by have := HK1.out; have := HJ7.out; have := HK3.out; omega⟩, ⟨by (with_reducible repeat (first | apply Kd.R_alloc | apply Kd.R_drewN | apply Kd.R_drew)); exact HO_5.out⟩, ⟨by repeat (first | (with_reducible first | exact HB.out | apply below_alloc | apply pw_below_drewN | apply below_drew1) | exact HB.out)⟩⟩
               ·
                rw [if_neg c18] at H
                exact absurd H (by simp)
              ·
               rw [if_neg c17] at H
               exact absurd H (by simp)
             ·
              rw [if_neg c16] at H
              have c16b0 : decide (x7_7 < (rd x5_3 (ji13))) = false := decide_eq_false c16
              clear c16
              by_cases c23 : 0 ≤ x8_3
              ·
               rw [if_pos c23] at H
               have c23b0 : decide (0 ≤ x8_3) = true := decide_eq_true c23
               clear c23
               by_cases c24 : x8_3 < (x5_3.length : Int)
               ·
                rw [if_pos c24] at H
                have c24b0 : decide (x8_3 < (x5_3.length : Int)) = true := decide_eq_true c24
                clear c24
                obtain ⟨y426, hy426⟩ : ∃ y_ : List Int, y_ = (x5_3.set (x8_3 : Int).toNat x7_7) := ⟨_, rfl⟩
                replace H : (turndownlaw07_tame.l0 k3 l0 a1 y426 (wrap64 (x6_1 + 1))) = some r := by first | (rw [hy426]; with_reducible exact H) | (have H2_ := (Option.bind_some _ _).symm.trans H; rw [hy426]; with_reducible exact H2_) | (have H2_ := (Option.bind_some _ _).symm.trans H; with_reducible exact H2_) | with_reducible exact H | (rw [hy426]; exact H) | exact H
                have Ny426 := Aside0.mk hy426
                clear hy426
                have H' := Aside0.mk H
                clear H
                obtain ⟨Ao26, co26, eo26⟩ := Kd.R_slice HO_5.out
                subst eo26
                have p423 : 0 ≤ ((ji13) : Int) := of_decide_eq_true (by first | (with_reducible assumption) | assumption)
                have q423 : (ji13) < (x5_3.length : Int) := of_decide_eq_true (by first | (with_reducible assumption) | assumption)
                obtain ⟨ad423, e423, hx423_0⟩ := Kd.at_int (Kd.R_reads' HO_5.out).2.2 (ji13) p423 q423
                cases e423
                replace p423 := eq_true p423
                replace q423 := eq_true q423
                have p25 : 0 ≤ (x8_3 : Int) := of_decide_eq_true (by first | (with_reducible assumption) | assumption)
                have q25 : (x8_3 : Int) < ((x5_3.length : Int) : Int) := of_decide_eq_true (by first | (with_reducible assumption) | assumption)
                obtain ⟨go25, co25, eo25, gb25, gl25, cl25, HG25⟩ := Kd.R_form HO_5.out (by omega)
                (first | cases eo25 | (injection eo25 with ea_ en_ ec_; (first | subst ea_ | (injection ea_ with ea_; subst ea_)); subst ec_; clear en_))
                have GB25 := Aside0.mk gb25
                have GG25 := Aside0.mk HG25
                clear gb25 gl25 HG25
                (first | simp only [add_plain] at hx423_0 | skip)
                obtain ⟨hx25_0, hf25_0⟩ := Kd.R_celln 0 HO_5.out (x8_3 : Int) p25 q25
                replace p25 := eq_true p25
                replace q25 := eq_true q25
                have HP27 := Kd.R_putg HO_5.out (x8_3 : Int) x7_7
                go_wp2_with (first | ((with_reducible refine gate_store (t := 3) (p := 52) rfl ?_); refine store_event (t := 3) (p := 52) (v := ?vo_w28) (w1 := (wr.setCell ⟨go25, (x8_3 : Int).toNat, none⟩ (.int .i64 x7_7))) ?hg ?ho ?hn ?hr ?_; (case ho => rfl); (case hg => rfl); (case hn => rfl); (case hr => first | (go_simp; done) | (go_simp; rfl)); intro w28 hw; have hg : wr.grownBy w28 (some go25) := (by rw [hw]; exact HP27.2); have hp_ : Kd.R (Kd.int .i64) 3 w28 w.heap.size (fun _ => True) (.slice (some ⟨go25, 0, none⟩) x5_3.length co26) y426 := (by rw [hw, Ny426.out]; exact HP27.1); clear HP27; have n0_ := Aside0.mk (hp_); have n1_ := Aside0.mk ((by rw [hw]; exact below_set (HB.out) GB25.out : Below w.heap.size w w28)); clear HO_5; clear HB; have HO_5 := n0_; have HB := n1_; clear n0_ n1_; clear hg hw hp_))
                go_roundg k3
                case measure => have := HK1.out; have := HJ7.out; have := HK3.out; omega
                case rel => exact ⟨(y426), (wrap64 (x6_1 + 1)), (by first | rfl | (simp; done) | (simp [*]; done)), H', ⟨by have := HK1.out; have := HJ7.out; have := HK3.out; omega⟩, ⟨by (with_reducible repeat (first | apply Kd.R_alloc | apply Kd.R_drewN | apply Kd.R_drew)); exact HO_5.out⟩, ⟨by repeat (first | (with_reducible first | exact HB.out | apply below_alloc | apply pw_below_drewN | apply below_drew1) | exact HB.out)⟩⟩
               ·
                rw [if_neg c24] at H
                exact absurd H (by simp)
              ·
               rw [if_neg c23] at H
               exact absurd H (by simp)
            ·
             rw [if_neg c15] at H
             exact absurd H (by simp)
           ·
            rw [if_neg c14] at H
            exact absurd H (by simp)
          ·
           rw [if_neg c12] at H
           have c12b0 : decide (0 < x8_3) = false := decide_eq_false c12
           clear c12
           by_cases c29 : 0 ≤ x8_3
           ·
            rw [if_pos c29] at H
            have c29b0 : decide (0 ≤ x8_3) = true := decide_eq_true c29
            clear c29
            by_cases c30 : x8_3 < (x5_3.length : Int)
            ·
             rw [if_pos c30] at H
             have c30b0 : decide (x8_3 < (x5_3.length : Int)) = true := decide_eq_true c30
             clear c30
             obtain ⟨y427, hy427⟩ : ∃ y_ : List Int, y_ = (x5_3.set (x8_3 : Int).toNat x7_7) := ⟨_, rfl⟩
             replace H : (turndownlaw07_tame.l0 k3 l0 a1 y427 (wrap64 (x6_1 + 1))) = some r := by first | (rw [hy427]; with_reducible exact H) | (have H2_ := (Option.bind_some _ _).symm.trans H; rw [hy427]; with_reducible exact H2_) | (have H2_ := (Option.bind_some _ _).symm.trans H; with_reducible exact H2_) | with_reducible exact H | (rw [hy427]; exact H) | exact H
             have Ny427 := Aside0.mk hy427
             clear hy427
             have H' := Aside0.mk H
             clear H
             have p31 : 0 ≤ (x8_3 : Int) := of_decide_eq_true (by first | (with_reducible assumption) | assumption)
             have q31 : (x8_3 : Int) < ((x5_3.length : Int) : Int) := of_decide_eq_true (by first | (with_reducible assumption) | assumption)
             obtain ⟨go31, co31, eo31, gb31, gl31, cl31, HG31⟩ := Kd.R_form HO_5.out (by omega)
             (first | cases eo31 | (injection eo31 with ea_ en_ ec_; (first | subst ea_ | (injection ea_ with ea_; subst ea_)); subst ec_; clear en_))
             have GB31 := Aside0.mk gb31
             have GG31 := Aside0.mk HG31
             clear gb31 gl31 HG31
             obtain ⟨hx31_0, hf31_0⟩ := Kd.R_celln 0 HO_5.out (x8_3 : Int) p31 q31
             replace p31 := eq_true p31
             replace q31 := eq_true q31
             have HP32 := Kd.R_putg HO_5.out (x8_3 : Int) x7_7
             go_wp2_with (first | ((with_reducible refine gate_store (t := 3) (p := 52) rfl ?_); refine store_event (t := 3) (p := 52) (v := ?vo_w33) (w1 := (wr.setCell ⟨go31, (x8_3 : Int).toNat, none⟩ (.int .i64 x7_7))) ?hg ?ho ?hn ?hr ?_; (case ho => rfl); (case hg => rfl); (case hn => rfl); (case hr => first | (go_simp; done) | (go_simp; rfl)); intro w33 hw; have hg : wr.grownBy w33 (some go31) := (by rw [hw]; exact HP32.2); have hp_ : Kd.R (Kd.int .i64) 3 w33 w.heap.size (fun _ => True) (.slice (some ⟨go31, 0, none⟩) x5_3.length co31) y427 := (by rw [hw, Ny427.out]; exact HP32.1); clear HP32; have n0_ := Aside0.mk (hp_); have n1_ := Aside0.mk ((by rw [hw]; exact below_set (HB.out) GB31.out : Below w.heap.size w w33)); clear HO_5; clear HB; have HO_5 := n0_; have HB := n1_; clear n0_ n1_; clear hg hw hp_))
             go_roundg k3
             case measure => have := HK1.out; have := HJ7.out; have := HK3.out; omega
             case rel => exact ⟨(y427), (wrap64 (x6_1 + 1)), (by first | rfl | (simp; done) | (simp [*]; done)), H', ⟨by have := HK1.out; have := HJ7.out; have := HK3.out; omega⟩, ⟨by (with_reducible repeat (first | apply Kd.R_alloc | apply Kd.R_drewN | apply Kd.R_drew)); exact HO_5.out⟩, ⟨by repeat (first | (with_reducible first | exact HB.out | apply below_alloc | apply pw_below_drewN | apply below_drew1) | exact HB.out)⟩⟩
            ·
             rw [if_neg c30] at H
             exact absurd H (by simp)
           ·
            rw [if_neg c29] at H
            exact absurd H (by simp)
     ·
      rw [if_neg c7] at H
      have c7b0 : decide (x6_1 < a1) = false := decide_eq_false c7
      clear c7
      obtain rfl := Option.some.inj H
      go_wp2
      go_ret
      exact ⟨_, by first | rfl | (simp [errW_none, errW_some] <;> rfl) | (simp [*, errW_none, errW_some] <;> rfl), by (with_reducible repeat (first | apply Kd.R_alloc | apply Kd.R_drewN | apply Kd.R_drew)); exact HO_5.out, by repeat (first | (with_reducible first | exact HB.out | apply below_alloc | apply pw_below_drewN | apply below_drew1) | exact HB.out)⟩
  ·
   rw [if_neg c4] at H
   exact absurd H (by simp)
 ·
  rw [if_neg c3] at H
  exact absurd H (by simp)
end Go.Proofs.Ytakbijpcfnipoaa.PA

namespace Go.Proofs.Ytakbijpcfnipoaa.PA
open Go.RowKit Go.Proofs.YtakbijpcfnipoaaW.PrintWords Go.Proofs.YtakbijpcfnipoaaW.PrintLast Go.Proofs.YtakbijpcfnipoaaW.PrintMore
attribute [local go_sem] max2_int min2_int max_two min_two max_three min_three max_four min_four
set_option linter.unusedVariables false
set_option linter.unusedSimpArgs false
def turndownlaw07_calls.l0 : Nat → List Int → Int → List Int → Int → Option (List Int)
 | 0, _, _, _, _ => none
 | k + 1, x0, x1, x5, x6 => if x6 < (x0.length : Int) then (if x6 < x1 then (if 0 ≤ x6 then ((turndownlaw07_mod.f (rd x0 x6) 31).bind fun t429 => (if x5.length < 17592186044416 then (turndownlaw07_calls.l0 k x0 x1 (x5 ++ [t429]) (wrap64 (x6 + 1))) else (none))) else (none)) else (some x5)) else (some x5)
def turndownlaw07_calls.f (k : Nat) (l0 : List Int) (a1 : Int) : Option (List Int) := turndownlaw07_calls.l0 k l0 a1 ([] : List Int) 0
set_option maxHeartbeats 8000000 in
set_option maxRecDepth 100000 in
theorem turndownlaw07_calls.calls (k : Nat) (A0 : Option Addr) (c0 : Nat) (l0 : List Int) (a1 : Int) (r : List Int) (w : World) (hr0 : Kd.C (Kd.int .i64) w A0 l0.length l0) (hc0 : l0.length ≤ c0) (h : turndownlaw07_calls.f k l0 a1 = some r) :
  Calls Try.prog 32 #[.slice A0 l0.length c0, .int .i64 a1] w fun e w' => ∃ v0_ : Value, e = .returned (v0_) ∧ Kd.R (Kd.int .i64) 3 w' w.heap.size (fun _ => True) v0_ r ∧ Below w.heap.size w w' := by
 have HR0 := Aside0.mk hr0
 have HC0 := Aside0.mk hc0
 clear hr0 hc0
 have HB := Aside0.mk (Below.refl w.heap.size w)
 have H : (turndownlaw07_calls.l0 k l0 a1 ([] : List Int) 0) = some r := h
 clear h
 have H' := Aside0.mk H
 clear H
 go_enter Try.func32, Try.ntmps32
 go_wp2
 go_loopg [5, 6] k (fun kq v5 v6 w' => ∃ (x5_1 : List Int) (x6_1 : Int), v6 = .int .i64 x6_1 ∧ Aside0 (turndownlaw07_calls.l0 kq l0 a1 x5_1 x6_1 = some r) ∧ Aside0 (kq ≤ k) ∧ Aside0 (Kd.R (Kd.int .i64) 3 w' w.heap.size (fun _ => True) v5 x5_1) ∧ Aside0 (Below w.heap.size w w'))
 case atStart => exact ⟨(([] : List Int)), (0), (by first | rfl | (simp; done) | (simp [*]; done)), H', ⟨Nat.le_refl _⟩, ⟨by first | exact Kd.R_nil _ _ _ _ _ | exact Kd.N_nil _ _ _ _ _ | exact Kd.V_nil _ _ _ _ _ | exact Kd.Q_nil _ _ _ _ _ | exact Kd.S_nil _ _ _ _ _⟩, ⟨by repeat (first | (with_reducible first | exact HB.out | apply below_alloc | apply pw_below_drewN | apply below_drew1) | exact HB.out)⟩⟩
 case round =>
  clear H'
  try clear p2
  obtain ⟨x5_1, x6_1, rfl, HA, HK1, HO_5, HB⟩ := hrel
  cases gk with
  | zero => exact absurd HA.out (by simp [turndownlaw07_calls.l0])
  | succ k1 =>
   have H := HA.out
   clear HA
   simp only [turndownlaw07_calls.l0] at H
   by_cases c3 : x6_1 < (l0.length : Int)
   ·
    rw [if_pos c3] at H
    have c3b0 : decide (x6_1 < (l0.length : Int)) = true := decide_eq_true c3
    clear c3
    by_cases c4 : x6_1 < a1
    ·
     rw [if_pos c4] at H
     have c4b0 : decide (x6_1 < a1) = true := decide_eq_true c4
     clear c4
     by_cases c5 : 0 ≤ x6_1
     ·
      rw [if_pos c5] at H
      have c5b0 : decide (0 ≤ x6_1) = true := decide_eq_true c5
      clear c5
      replace H := Option.bind_eq_some_iff.mp H
      obtain ⟨t429, A60, H⟩ := H
      replace H : (if x5_1.length < 17592186044416 then (turndownlaw07_calls.l0 k1 l0 a1 (x5_1 ++ [t429]) (wrap64 (x6_1 + 1))) else (none)) = some r := H
      have A6 := Aside0.mk A60
      clear A60
      by_cases c7 : x5_1.length < 17592186044416
      ·
       rw [if_pos c7] at H
       have LMc7 := Aside0.mk c7
       clear c7
       obtain ⟨y430, hy430⟩ : ∃ y_ : List Int, y_ = (x5_1 ++ [t429]) := ⟨_, rfl⟩
       replace H : (turndownlaw07_calls.l0 k1 l0 a1 y430 (wrap64 (x6_1 + 1))) = some r := by first | (rw [hy430]; with_reducible exact H) | (have H2_ := (Option.bind_some _ _).symm.trans H; rw [hy430]; with_reducible exact H2_) | (have H2_ := (Option.bind_some _ _).symm.trans H; with_reducible exact H2_) | with_reducible exact H | (rw [hy430]; exact H) | exact H
       have Ny430 := Aside0.mk hy430
       clear hy430
       have H' := Aside0.mk H
       clear H
       have p428 : 0 ≤ (x6_1 : Int) := of_decide_eq_true (by first | (with_reducible assumption) | assumption)
       have q428 : x6_1 < (l0.length : Int) := of_decide_eq_true (by first | (with_reducible assumption) | assumption)
       obtain ⟨ad428, e428, hx428_0⟩ := Kd.at_int HR0.out x6_1 p428 q428
       cases e428
       replace hx428_0 := (HB.out.cell (World.block_lt_of_cell? w _ hx428_0)).trans hx428_0
       replace p428 := eq_true p428
       replace q428 := eq_true q428
       go_wp2_with (first | ((with_reducible refine gate_callee (f := 36) rfl ?_); refine goesL_ (some 23) rfl rfl Try.func36 (by kernel_rfl) rfl #[.int .i64 (rd l0 x6_1), .int .i64 31] rfl (by (try simp only [List.map_toArray, List.map_cons, List.map_nil]); first | done | rfl | (simp only [List.length_drop, List.length_take]; rfl)) ?_; (with_reducible refine (turndownlaw07_mod.calls (rd l0 x6_1) 31 t429 _ A6.out).mono ?_); rintro e w' ⟨rfl, ⟨nd, rfl⟩⟩; refine ⟨_, rfl, ?_⟩) | ((with_reducible refine gate_builtin (b := .append) (xs := #[.tmp 18, .tmp 24]) rfl ?_); at_builtin; refine Kd.R_append (Kd.int .i64) (w0 := w) w.heap.size rfl (.tmp 18) (.tmp 24) 22 3 (.int .i64 0) 8 rfl Try.underlying22 info3 rfl (by decide) (by omega) u5 x5_1 t429 [.int .i64 t429] (fun _ => True) (fun _ => False) rfl rfl ?aP (fun _ hk => hk.elim) ?aF ?aO ?aB ?aS ?aL ?_; (case aP => exact rfl); (case aB => exact (by repeat (first | (with_reducible first | exact HB.out | apply below_alloc | apply pw_below_drewN | apply below_drew1) | exact HB.out))); (case aF => exact (fun _ _ => trivial)); (case aO => exact (by (with_reducible repeat (first | apply Kd.R_alloc | apply Kd.R_drewN | apply Kd.R_drew)); exact HO_5.out)); (case aS => exact (below_size (by repeat (first | (with_reducible first | exact HB.out | apply below_alloc | apply pw_below_drewN | apply below_drew1) | exact HB.out)))); (case aL => have := LMc7.out; omega); intro v431 w8 ho hb hg hat; rw [← Ny430.out] at ho; have n0_ := Aside0.mk (hb); have n1_ := Aside0.mk (ho); clear HB; clear HO_5; have HB := n0_; have HO432 := n1_; clear n0_ n1_; clear ho hb hg hat))
       go_roundg k1
       case measure => have := HK1.out; omega
       case rel => exact ⟨(y430), (wrap64 (x6_1 + 1)), (by first | rfl | (simp; done) | (simp [*]; done)), H', ⟨by have := HK1.out; omega⟩, ⟨by (with_reducible repeat (first | apply Kd.R_alloc | apply Kd.R_drewN | apply Kd.R_drew)); exact HO432.out⟩, ⟨by repeat (first | (with_reducible first | exact HB.out | apply below_alloc | apply pw_below_drewN | apply below_drew1) | exact HB.out)⟩⟩
      ·
       rw [if_neg c7] at H
       exact absurd H (by simp)
     ·
      rw [if_neg c5] at H
      exact absurd H (by simp)
    ·
     rw [if_neg c4] at H
     have c4b0 : decide (x6_1 < a1) = false := decide_eq_false c4
     clear c4
     obtain rfl := Option.some.inj H
     go_wp2
     go_ret
     exact ⟨_, by first | rfl | (simp [errW_none, errW_some] <;> rfl) | (simp [*, errW_none, errW_some] <;> rfl), by (with_reducible repeat (first | apply Kd.R_alloc | apply Kd.R_drewN | apply Kd.R_drew)); exact HO_5.out, by repeat (first | (with_reducible first | exact HB.out | apply below_alloc | apply pw_below_drewN | apply below_drew1) | exact HB.out)⟩
   ·
    rw [if_neg c3] at H
    have c3b0 : decide (x6_1 < (l0.length : Int)) = false := decide_eq_false c3
    clear c3
    obtain rfl := Option.some.inj H
    go_wp2
    go_ret
    exact ⟨_, by first | rfl | (simp [errW_none, errW_some] <;> rfl) | (simp [*, errW_none, errW_some] <;> rfl), by (with_reducible repeat (first | apply Kd.R_alloc | apply Kd.R_drewN | apply Kd.R_drew)); exact HO_5.out, by repeat (first | (with_reducible first | exact HB.out | apply below_alloc | apply pw_below_drewN | apply below_drew1) | exact HB.out)⟩
end Go.Proofs.Ytakbijpcfnipoaa.PA

set_option linter.unusedVariables false
set_option linter.unusedSimpArgs false
namespace Go.Proofs.Ytakbijpcfnipoaa.L
open Go.RowKit Go.Proofs.YtakbijpcfnipoaaW.PrintWords Go.Proofs.YtakbijpcfnipoaaW.PrintLast Go.Proofs.YtakbijpcfnipoaaW.PrintMore
open Go.Proofs.Ytakbijpcfnipoaa.PA Go.Proofs.Ytakbijpcfnipoaa.A Go.Proofs.Ytakbijpcfnipoaa.Lf
theorem take_snoc_d' {l : List Int} {q : Nat} (h : q < l.length) : l.take (q + 1) = l.take q ++ [l.getD q 0] := by
  rw [List.take_add_one, List.getElem?_eq_getElem h, List.getD_eq_getElem?_getD, List.getElem?_eq_getElem h]; rfl
theorem srt_take_le' {A : List Int} (hA : Srt A) {p : Nat} (hp : p < A.length) : ∀ y ∈ A.take p, y ≤ A.getD p 0 := by
  intro y hy
  obtain ⟨j, hj, rfl⟩ := List.getElem_of_mem hy
  rw [List.length_take] at hj
  rw [List.getElem_take, List.getD_eq_getElem?_getD, List.getElem?_eq_getElem hp]
  exact List.pairwise_iff_getElem.1 hA j p (by omega) hp (by omega)
theorem ins_perm (x : Int) : ∀ l : List Int, (ins x l).Perm (x :: l)
  | [] => List.Perm.refl _
  | y :: l => by
    unfold ins
    split
    · exact (List.Perm.cons y (ins_perm x l)).trans (List.Perm.swap x y l)
    · exact List.Perm.refl _
def modF (x n : Int) : Int := wrap64 (Int.tmod (IntKind.u64.wrap x) (IntKind.u64.wrap n))
theorem u64_wrap (x : Int) : 0 ≤ IntKind.u64.wrap x := by
  unfold IntKind.wrap
  have h : IntKind.u64.signed = false := rfl
  rw [h]
  exact Int.emod_nonneg _ (by decide)
theorem u64_id {n : Int} (h0 : 0 ≤ n) (h1 : n ≤ 1000) : IntKind.u64.wrap n = n := by
  unfold IntKind.wrap
  have h : IntKind.u64.signed = false := rfl
  have h2 : IntKind.u64.bits = 64 := rfl
  rw [h, h2]
  exact Int.emod_eq_of_lt h0 (by omega)
theorem modF_bd (x : Int) {n : Int} (h0 : 0 < n) (h1 : n ≤ 1000) : 0 ≤ modF x n ∧ modF x n < n := by
  unfold modF
  rw [u64_id (by omega) h1, Int.tmod_eq_emod_of_nonneg (u64_wrap x)]
  have a := Int.emod_nonneg (IntKind.u64.wrap x) (by omega : n ≠ 0)
  have b := Int.emod_lt_of_pos (IntKind.u64.wrap x) h0
  rw [wrap_id (by omega) (by omega)]
  exact ⟨a, b⟩
theorem mod_f (x : Int) {n : Int} (h0 : 0 < n) (h1 : n ≤ 1000) : turndownlaw07_mod.f x n = some (modF x n) := by
  unfold turndownlaw07_mod.f
  rw [if_neg (by rw [u64_id (by omega) h1]; omega)]
  rfl
def liftF (l : List Int) : Int := 1 + modF (wrap64 ((l.length : Int) - 1)) 3
theorem liftF_bd (l : List Int) : 1 ≤ liftF l ∧ liftF l ≤ 3 := by
  unfold liftF
  have := modF_bd (wrap64 ((l.length : Int) - 1)) (n := 3) (by omega) (by omega)
  omega
theorem lifted_f (l : List Int) : turndownlaw07_lifted.f l = some (liftF l) := by
  unfold turndownlaw07_lifted.f
  rw [mod_f _ (by omega) (by omega)]
  have := modF_bd (wrap64 ((l.length : Int) - 1)) (n := 3) (by omega) (by omega)
  simp only [Option.bind_some]
  rw [wrap_id (by omega) (by omega)]
  rfl
def tmx (l : List Int) (i : Nat) : Int := if i < l.length then modF (l.getD i 0) 31 else 5 * (i : Int)
theorem tmx_bd (l : List Int) {i : Nat} (hi : i < 3) : 0 ≤ tmx l i ∧ tmx l i ≤ 30 := by
  unfold tmx
  split
  · have := modF_bd (l.getD i 0) (n := 31) (by omega) (by omega); omega
  · omega
theorem tame_ev {k : Nat} (hk3 : k ≤ 3) (l : List Int) : ∃ r, Ev (fun n => turndownlaw07_tame.f n l (k : Int)) r ∧ Srt r ∧ r.Perm ((List.range k).map (tmx l)) := by
  have k1 : ∀ j (S Z : List Int) (y x : Int) (r : List Int), j ≤ S.length → Srt S → (∀ u ∈ S.drop j, x < u) → S.length + 1 + Z.length = k → j + 0 ≤ S.length →
      (∀ S', Srt S' → S'.Perm (x :: S) → Ev (fun n => turndownlaw07_tame.l0 n l (k : Int) (S' ++ Z) ((S.length + 1 : Nat) : Int)) r) →
      Ev (fun n => turndownlaw07_tame.l1 n l (k : Int) (S.take j ++ y :: (S.drop j ++ Z)) (S.length : Int) x (j : Int)) r := by
    intro j
    induction j with
    | zero =>
      intro S Z y x r hj hS hd hlen _ hr
      rw [List.take_zero, List.drop_zero, List.nil_append]
      rw [List.drop_zero] at hd
      have h := hr (x :: S) (List.pairwise_cons.2 ⟨fun u hu => by have := hd u hu; omega, hS⟩) (List.Perm.refl _)
      refine Ev.step (fun n => ?_) h
      rw [turndownlaw07_tame.l1, if_neg (by omega), if_pos (by omega), if_pos (by simp only [List.length_cons]; omega), w1 (by omega)]
      rfl
    | succ j ih =>
      intro S Z y x r hj hS hd hlen _ hr
      have hjl : j < S.length := by omega
      have htl : (S.take (j + 1)).length = j + 1 := by rw [List.length_take]; omega
      have hls : (S.take (j + 1) ++ y :: (S.drop (j + 1) ++ Z)).length = k := by
        simp only [List.length_append, List.length_cons, List.length_take, List.length_drop]; omega
      have hgj : (S.take (j + 1) ++ y :: (S.drop (j + 1) ++ Z)).getD j 0 = S.getD j 0 := by
        rw [List.getD_eq_getElem?_getD, List.getElem?_append_left (by omega), List.getElem?_take_of_lt (by omega), ← List.getD_eq_getElem?_getD]
      have hset : ∀ u, (S.take (j + 1) ++ y :: (S.drop (j + 1) ++ Z)).set (j + 1) u = S.take (j + 1) ++ u :: (S.drop (j + 1) ++ Z) := fun u => by
        rw [List.set_append_right _ _ (by omega), htl, Nat.sub_self]; rfl
      by_cases c : S.getD j 0 > x
      · have e1 : S.take (j + 1) ++ S.getD j 0 :: (S.drop (j + 1) ++ Z) = S.take j ++ S.getD j 0 :: (S.drop j ++ Z) := by
          rw [take_snoc_d' hjl, drop_cons hjl 0, List.append_assoc]; rfl
        have h := ih S Z (S.getD j 0) x r (by omega) hS (fun u hu => by
          rw [drop_cons hjl 0] at hu
          rcases List.mem_cons.1 hu with rfl | hu
          · exact c
          · exact hd u hu) hlen (by omega) hr
        refine Ev.step (fun n => ?_) h
        rw [turndownlaw07_tame.l1, if_pos (by omega), wm (by omega), if_pos (by omega), if_pos (by rw [hls]; omega), rd_nat, hgj, if_pos c, if_pos (by omega), if_pos (by rw [hls]; omega), Int.toNat_natCast, hset, e1]
      · have hle : ∀ u ∈ S.take (j + 1), u ≤ x := fun u hu => by
          rw [take_snoc_d' hjl] at hu
          rcases List.mem_append.1 hu with hu | hu
          · have := srt_take_le' hS hjl u hu; omega
          · rw [List.mem_singleton.1 hu]; omega
        have hS' : Srt (S.take (j + 1) ++ x :: S.drop (j + 1)) := by
          refine List.pairwise_append.2 ⟨hS.sublist (List.take_sublist _ _), List.pairwise_cons.2 ⟨fun u hu => by have := hd u hu; omega, hS.sublist (List.drop_sublist _ _)⟩, fun a ha b hb => ?_⟩
          rcases List.mem_cons.1 hb with rfl | hb
          · exact hle a ha
          · have := hle a ha; have := hd b hb; omega
        have hP : (S.take (j + 1) ++ x :: S.drop (j + 1)).Perm (x :: S) := by
          have h1 := List.perm_middle (a := x) (l₁ := S.take (j + 1)) (l₂ := S.drop (j + 1))
          rwa [List.take_append_drop] at h1
        have h := hr _ hS' hP
        refine Ev.step (fun n => ?_) h
        rw [turndownlaw07_tame.l1, if_pos (by omega), wm (by omega), if_pos (by omega), if_pos (by rw [hls]; omega), rd_nat, hgj, if_neg c, if_pos (by omega), if_pos (by rw [hls]; omega), Int.toNat_natCast, hset, w1 (by omega), List.append_assoc]
        rfl
  have k0 : ∀ e i (S : List Int), i + e = k → S.length = i → Srt S → S.Perm ((List.range i).map (tmx l)) → ∃ r, Ev (fun n => turndownlaw07_tame.l0 n l (k : Int) (S ++ List.replicate e 0) (i : Int)) r ∧ Srt r ∧ r.Perm ((List.range k).map (tmx l)) := by
    intro e
    induction e with
    | zero =>
      intro i S hi hSl hS hP
      obtain rfl : i = k := by omega
      refine ⟨S, Ev.step (fun n => ?_) (Ev.now _), hS, hP⟩
      rw [turndownlaw07_tame.l0, if_neg (by omega)]
      simp
    | succ e ih =>
      intro i S hi hSl hS hP
      have hx : 0 ≤ tmx l i ∧ tmx l i ≤ 30 := tmx_bd l (by omega)
      have hex : ∃ r, (∀ S', Srt S' → S'.Perm (tmx l i :: S) → Ev (fun n => turndownlaw07_tame.l0 n l (k : Int) (S' ++ List.replicate e 0) ((i + 1 : Nat) : Int)) r) ∧ Srt r ∧ r.Perm ((List.range k).map (tmx l)) := by
        obtain ⟨S0, hS0, hP0⟩ : ∃ S', Srt S' ∧ S'.Perm (tmx l i :: S) := ⟨ins (tmx l i) S, ins_srt hS, ins_perm _ _⟩
        have hP1 : ∀ S' : List Int, S'.Perm (tmx l i :: S) → S'.Perm ((List.range (i + 1)).map (tmx l)) := fun S' h => by
          rw [List.range_succ, List.map_append]
          exact h.trans ((List.Perm.cons _ hP).trans (List.perm_append_comm (l₁ := [tmx l i])))
        obtain ⟨r, h1, h2, h3⟩ := ih (i + 1) S0 (by omega) (by rw [hP0.length_eq]; simp [hSl]) hS0 (hP1 S0 hP0)
        refine ⟨r, fun S' hs hp => ?_, h2, h3⟩
        have : S' = S0 := List.Perm.eq_of_pairwise (fun a b _ _ h1 h2 => Int.le_antisymm h1 h2) hs hS0 (hp.trans hP0.symm)
        rw [this]; exact h1
      obtain ⟨r, h1, h2, h3⟩ := hex
      refine ⟨r, ?_, h2, h3⟩
      have hl1 : Ev (fun n => turndownlaw07_tame.l1 n l (k : Int) (S.take S.length ++ 0 :: (S.drop S.length ++ List.replicate e 0)) (S.length : Int) (tmx l i) ((S.length : Nat) : Int)) r :=
        k1 S.length S (List.replicate e 0) 0 (tmx l i) r (Nat.le_refl _) hS (fun u hu => by rw [List.drop_length] at hu; cases hu) (by rw [List.length_replicate]; omega) (by omega) (fun S' hs hp => by rw [hSl]; exact h1 S' hs hp)
      rw [List.take_length, List.drop_length, List.nil_append, hSl] at hl1
      have hj1 : Ev (fun n => turndownlaw07_tame.j1 n l (k : Int) (S ++ 0 :: List.replicate e 0) (i : Int) (tmx l i)) r := Ev.step (fun n => by rw [turndownlaw07_tame.j1]) hl1
      refine Ev.step (fun n => ?_) hj1
      rw [turndownlaw07_tame.l0, if_pos (by omega)]
      by_cases c : i < l.length
      · rw [if_pos (by omega), if_pos (by omega), rd_nat, mod_f _ (by omega) (by omega)]
        simp only [Option.bind_some]
        unfold tmx
        rw [if_pos c]
        rfl
      · rw [if_neg (by omega), wrap_id (by omega) (by omega)]
        unfold tmx
        rw [if_neg c]
        rfl
  obtain ⟨r, h1, h2, h3⟩ := k0 k 0 [] (by omega) rfl (by simp [Srt]) (List.Perm.refl _)
  refine ⟨r, Ev.congr (fun n => ?_) h1, h2, h3⟩
  rw [turndownlaw07_tame.f, if_pos (by omega), Int.toNat_natCast, if_pos (by omega)]
  rfl
theorem tame_pos {k : Nat} (hk3 : k ≤ 3) {l r : List Int} (hs : Srt r) (hp : r.Perm ((List.range k).map (tmx l))) : Pos k r := by
  refine ⟨by rw [hp.length_eq]; simp, hs, fun y hy => ?_⟩
  have := hp.mem_iff.1 hy
  obtain ⟨i, hi, rfl⟩ := List.mem_map.1 this
  exact tmx_bd l (by have := List.mem_range.1 hi; omega)
def clF (l : List Int) (m : Nat) : List Int := (l.take m).map (fun x => modF x 31)
theorem clF_fls (l : List Int) (m : Nat) : Fls (clF l m) := by
  intro x hx
  obtain ⟨y, _, rfl⟩ := List.mem_map.1 hx
  have := modF_bd y (n := 31) (by omega) (by omega)
  exact ⟨this.1, by omega⟩
theorem clF_len (l : List Int) (m : Nat) : (clF l m).length ≤ m := by unfold clF; rw [List.length_map, List.length_take]; omega
theorem calls_ev2 (l : List Int) {m : Nat} (hm : m ≤ 1000) : Ev (fun n => turndownlaw07_calls.f n l (m : Int)) (clF l m) := by
  have key : ∀ e q (o : List Int), q + e = min l.length m → o.length = q → Ev (fun n => turndownlaw07_calls.l0 n l (m : Int) o (q : Int)) (o ++ ((l.take m).drop q).map (fun x => modF x 31)) := by
    intro e
    induction e with
    | zero =>
      intro q o hq ho
      rw [List.drop_of_length_le (by rw [List.length_take]; omega)]
      refine Ev.step (fun k => ?_) (Ev.now _)
      by_cases c : (q : Int) < (l.length : Int)
      · rw [turndownlaw07_calls.l0, if_pos c, if_neg (by omega)]; simp
      · rw [turndownlaw07_calls.l0, if_neg c]; simp
    | succ e ih =>
      intro q o hq ho
      have hql : q < l.length := by omega
      have e1 : (l.take m).drop q = l.getD q 0 :: (l.take m).drop (q + 1) := by
        rw [drop_cons (by rw [List.length_take]; omega) 0]
        congr 1
        rw [List.getD_eq_getElem?_getD, List.getD_eq_getElem?_getD, List.getElem?_take_of_lt (by omega)]
      rw [e1]
      refine Ev.step (fun k => ?_) (Ev.cong (ih (q + 1) (o ++ [modF (l.getD q 0) 31]) (by omega) (by simp [ho])) (by simp))
      rw [turndownlaw07_calls.l0, if_pos (by omega), if_pos (by omega), if_pos (by omega), rd_nat, mod_f _ (by omega) (by omega)]
      simp only [Option.bind_some]
      rw [if_pos (by omega), w1 (by omega)]
  exact Ev.cong (key (min l.length m) 0 [] (by omega) rfl) rfl
end Go.Proofs.Ytakbijpcfnipoaa.L

set_option linter.unusedVariables false
set_option linter.unusedSimpArgs false
namespace Go.Proofs.Ytakbijpcfnipoaa.L
open Go.RowKit Go.Proofs.YtakbijpcfnipoaaW.PrintWords Go.Proofs.YtakbijpcfnipoaaW.PrintLast Go.Proofs.YtakbijpcfnipoaaW.PrintMore
open Go.Proofs.Ytakbijpcfnipoaa.PA Go.Proofs.Ytakbijpcfnipoaa.A Go.Proofs.Ytakbijpcfnipoaa.Lf
section
variable {w W : World} {I : RI} {T : RT}
theorem lifted_E (h : Env w W I T) {A : Option Addr} {c : Nat} {l : List Int} (hm : (A, c, l) ∈ I) {k : Nat} (hk : liftF l = (k : Int)) :
    Calls Try.prog 30 #[.slice A l.length c] W fun e w' => e = .returned (.int .i64 (k : Int)) ∧ Env w w' I T := by
  have hf := lifted_f l
  rw [hk] at hf
  refine (turndownlaw07_lifted.calls A c l _ W (h.is _ hm).1 (h.is _ hm).2 hf).mono ?_
  rintro e w' ⟨rfl, hb⟩
  exact ⟨rfl, h.drawn hb⟩
theorem tame_E (h : Env w W I T) {A : Option Addr} {c : Nat} {l : List Int} (hm : (A, c, l) ∈ I) {k : Nat} {r : List Int} (hr : Ev (fun n => turndownlaw07_tame.f n l (k : Int)) r) :
    Calls Try.prog 31 #[.slice A l.length c, .int .i64 (k : Int)] W fun e w' => ∃ A' c', e = .returned (.slice A' r.length c') ∧ Env w w' ((A', c', r) :: I) T := by
  obtain ⟨n, hn⟩ := Ev.rounds hr
  refine (turndownlaw07_tame.calls n A c l _ r W (h.is _ hm).1 (h.is _ hm).2 hn).mono ?_
  rintro e w' ⟨v, rfl, hR, hb⟩
  obtain ⟨A', c', rfl, g1, g2⟩ := Kd.R_reads hR
  exact ⟨A', c', rfl, (h.below hb).addI g2 g1⟩
theorem made_E (h : Env w W I T) {A : Option Addr} {c : Nat} {l : List Int} (hm : (A, c, l) ∈ I) {m : Nat} (hm' : m ≤ 1000) {r : List Int} (hr : clF l m = r) :
    Calls Try.prog 32 #[.slice A l.length c, .int .i64 (m : Int)] W fun e w' => ∃ A' c', e = .returned (.slice A' r.length c') ∧ Env w w' ((A', c', r) :: I) T := by
  subst hr
  obtain ⟨n, hn⟩ := Ev.rounds (calls_ev2 l hm')
  refine (turndownlaw07_calls.calls n A c l _ _ W (h.is _ hm).1 (h.is _ hm).2 hn).mono ?_
  rintro e w' ⟨v, rfl, hR, hb⟩
  obtain ⟨A', c', rfl, g1, g2⟩ := Kd.R_reads hR
  exact ⟨A', c', rfl, (h.below hb).addI g2 g1⟩
end
def Serves (k : Nat) (c : List Int) (L : List (List Int)) : Prop := L.length = c.length ∧ ∀ i, i < c.length → Pos k (L.getD i []) ∧ c.getD i 0 ∈ L.getD i []
theorem Serves.sched {k : Nat} : ∀ {c : List Int} {L : List (List Int)}, Serves k c L → Sched k c L
  | [], [], _ => trivial
  | [], _ :: _, h => by have := h.1; simp at this
  | _ :: _, [], h => by have := h.1; simp at this
  | f :: c, s :: L, h => by
    refine ⟨(h.2 0 (by simp)).1, (h.2 0 (by simp)).2, Serves.sched ⟨by have := h.1; simpa using this, fun i hi => ?_⟩⟩
    have := h.2 (i + 1) (by simp; omega)
    simpa using this
theorem Serves.ok {k : Nat} (hk1 : 1 ≤ k) (hk3 : k ≤ 3) {c : List Int} {L : List (List Int)} (h : Serves k c L) : schedB k c L = true := by
  unfold schedB
  rw [decide_eq_true h.1, Bool.true_and, List.all_eq_true]
  intro i hi
  rw [List.mem_range, h.1] at hi
  obtain ⟨h1, h2⟩ := h.2 i hi
  unfold okI
  have h3 := h1.len
  have h4 : posB (L.getD i []) = true := posB_iff.2 ⟨by omega, by omega, by rw [h3]; exact h1⟩
  rw [h4, decide_eq_true h3]
  simpa using h2
theorem Serves.cost {s c : List Int} {L : List (List Int)} (hh : hallB s c = true) (h : Serves s.length c L) : lifts_Cost.f s c L = some (Lf.cost s L, 0) := by
  obtain ⟨hp, hcb⟩ : posB s = true ∧ callB c = true := by simpa [hallB] using hh
  obtain ⟨hk1, hk3, hs⟩ := posB_iff.1 hp
  unfold lifts_Cost.f
  rw [hh, h.ok hk1 hk3]
  rfl
theorem Serves.fs {k : Nat} (hk1 : 1 ≤ k) (hk3 : k ≤ 3) {s c : List Int} (hs : Pos k s) (hc : Fls c) (h40 : c.length ≤ 40) : Serves k c (fsF k (dist s) s c) :=
  ⟨fsF_len _ _ _ _, fun i hi => ⟨fsP_pos hk1 hk3 hs hc h40 (i + 1) hi, fsP_has hk1 hk3 hs hc h40 hi⟩⟩
theorem hall_of {k : Nat} (hk1 : 1 ≤ k) (hk3 : k ≤ 3) {s c : List Int} (hs : Pos k s) (hc : Fls c) (h40 : c.length ≤ 40) : hallB s c = true := by
  have h1 := hs.len
  unfold hallB
  rw [posB_iff.2 ⟨by omega, by omega, by rw [h1]; exact hs⟩, callB_iff.2 ⟨h40, hc⟩]
  rfl
end Go.Proofs.Ytakbijpcfnipoaa.L
