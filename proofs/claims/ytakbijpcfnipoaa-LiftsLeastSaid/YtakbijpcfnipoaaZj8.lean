/- What the statements of this seat lean on: the functions that they reach, walked. -/
import Derived.Test.YtakbijpcfnipoaaZj7
set_option linter.unusedSimpArgs false
set_option linter.unusedVariables false

namespace Go.Proofs.Ytakbijpcfnipoaa.PA
open Go.RowKit Go.Proofs.YtakbijpcfnipoaaW.PrintWords Go.Proofs.YtakbijpcfnipoaaW.PrintLast Go.Proofs.YtakbijpcfnipoaaW.PrintMore
attribute [local go_sem] max2_int min2_int max_two min_two max_three min_three max_four min_four
set_option linter.unusedVariables false
set_option linter.unusedSimpArgs false
mutual
def turndownlaw07_tame.l0 : Nat → List Int → Int → List Int → Int → Option (List Int)
 | 0, _, _, _, _ => none
 | k + 1, x0, x1, x5, x6 => if x6 < x1 then (if x6 < (x0.length : Int) then (if 0 ≤ x6 then ((turndownlaw07_mod.f (rd x0 x6) 31).bind fun t422 => (turndownlaw07_tame.j1 k x0 x1 x5 x6 t422)) else (none)) else (turndownlaw07_tame.j1 k x0 x1 x5 x6 (wrap64 (5 * x6)))) else (some x5)
def turndownlaw07_tame.j1 : Nat → List Int → Int → List Int → Int → Int → Option (List Int)
 | 0, _, _, _, _, _ => none
 | k + 1, x0, x1, x5, x6, x7 => turndownlaw07_tame.l1 k x0 x1 x5 x6 x7 x6
def turndownlaw07_tame.l1 : Nat → List Int → Int → List Int → Int → Int → Int → Option (List Int)
 | 0, _, _, _, _, _, _ => none
 | k + 1, x0, x1, x5, x6, x7, x8 => if x8 > 0 then (if 0 ≤ (wrap64 (x8 - 1)) then (if (wrap64 (x8 - 1)) < (x5.length : Int) then (if (rd x5 (wrap64 (x8 - 1))) > x7 then (if 0 ≤ x8 then (if x8 < (x5.length : Int) then (turndownlaw07_tame.l1 k x0 x1 (x5.set (x8 : Int).toNat (rd x5 (wrap64 (x8 - 1)))) x6 x7 (wrap64 (x8 - 1))) else (none)) else (none)) else (if 0 ≤ x8 then (if x8 < (x5.length : Int) then (turndownlaw07_tame.l0 k x0 x1 (x5.set (x8 : Int).toNat x7) (wrap64 (x6 + 1))) else (none)) else (none))) else (none)) else (none)) else (if 0 ≤ x8 then (if x8 < (x5.length : Int) then (turndownlaw07_tame.l0 k x0 x1 (x5.set (x8 : Int).toNat x7) (wrap64 (x6 + 1))) else (none)) else (none))
end
def turndownlaw07_tame.f (k : Nat) (l0 : List Int) (a1 : Int) : Option (List Int) := if 0 ≤ a1 then (if (a1 : Int).toNat ≤ 35184372088832 then (turndownlaw07_tame.l0 k l0 a1 (List.replicate (a1 : Int).toNat 0) 0) else (none)) else (none)
set_option maxHeartbeats 8000000 in
set_option maxRecDepth 100000 in
theorem turndownlaw07_tame.calls (k : Nat) (A0 : Option Addr) (c0 : Nat) (l0 : List Int) (a1 : Int) (r : List Int) (w : World) (hr0 : Kd.C (Kd.int .i64) w A0 l0.length l0) (hc0 : l0.length ≤ c0) (h : turndownlaw07_tame.f k l0 a1 = some r) :
  Calls Try.prog 31 #[.slice A0 l0.length c0, .int .i64 a1] w fun e w' => ∃ v0_ : Value, e = .returned (v0_) ∧ Kd.R (Kd.int .i64) 3 w' w.heap.size (fun _ => True) v0_ r ∧ Below w.heap.size w w' := by
 have HR0 := Aside0.mk hr0
 have HC0 := Aside0.mk hc0
 clear hr0 hc0
 have HB := Aside0.mk (Below.refl w.heap.size w)
 have H : (if 0 ≤ a1 then (if (a1 : Int).toNat ≤ 35184372088832 then (turndownlaw07_tame.l0 k l0 a1 (List.replicate (a1 : Int).toNat 0) 0) else (none)) else (none)) = some r := h
 clear h
 by_cases c3 : 0 ≤ a1
 ·
  rw [if_pos c3] at H
  have c3b0 := eq_true c3
  have c3b1 : decide (0 ≤ a1) = true := decide_eq_true c3
  clear c3
  by_cases c4 : (a1 : Int).toNat ≤ 35184372088832
  ·
   rw [if_pos c4] at H
   have c4b0 := eq_true c4
   have c4b1 : decide ((a1 : Int).toNat ≤ 35184372088832) = true := decide_eq_true c4
   clear c4
   obtain ⟨y418, hy418⟩ : ∃ y_ : List Int, y_ = (List.replicate (a1 : Int).toNat 0) := ⟨_, rfl⟩
   replace H : (turndownlaw07_tame.l0 k l0 a1 y418 0) = some r := by first | (rw [hy418]; with_reducible exact H) | (have H2_ := (Option.bind_some _ _).symm.trans H; rw [hy418]; with_reducible exact H2_) | (have H2_ := (Option.bind_some _ _).symm.trans H; with_reducible exact H2_) | with_reducible exact H | (rw [hy418]; exact H) | exact H
   have Ny418 := Aside0.mk hy418
   clear hy418
   have H' := Aside0.mk H
   clear H
   go_enter Try.func31, Try.ntmps31
   go_wp2_with (first | ((with_reducible refine gate_dst (N := 10) rfl ?_); refine Kd.R_make (Kd.int .i64) _ 3 rfl (N := 10) rfl 22 _ _ rfl a1 rfl rfl Try.underlying22 (.int .i64 0) 8 info3 rfl (by decide) (by omega) 0 (ok := fun _ => True) (okp := fun _ => True) rfl (fun _ hk => hk) trivial (of_decide_eq_true (by first | (with_reducible assumption) | assumption)) (Nat.le_trans (Nat.mul_le_mul_right _ (of_decide_eq_true (by first | (with_reducible assumption) | assumption) : a1.toNat ≤ 35184372088832)) (by omega)) (Below.refl _ _) (Nat.le_refl _) ?_; intro v419 w5 ho6 hb hg_ hnew_; clear hg_ hnew_; (first | rw [← Ny418.out] at ho6 | (simp only [Int.reduceToNat] at ho6; rw [← Ny418.out] at ho6)); have n0_ := Aside0.mk (Kd.R_lower ho6 (below_size (by repeat (first | (with_reducible first | exact HB.out | apply below_alloc | apply pw_below_drewN | apply below_drew1) | exact HB.out)))); have n1_ := Aside0.mk (below_step (by repeat (first | (with_reducible first | exact HB.out | apply below_alloc | apply pw_below_drewN | apply below_drew1) | exact HB.out)) hb); clear HB; have HO420 := n0_; have HB := n1_; clear n0_ n1_; clear hb ho6))
   go_loopg [6] k (fun kq v6 w' => ∃ (x5_1 : List Int) (x6_1 : Int), v6 = .int .i64 x6_1 ∧ Aside0 (turndownlaw07_tame.l0 kq l0 a1 x5_1 x6_1 = some r) ∧ Aside0 (kq ≤ k) ∧ Aside0 (Kd.R (Kd.int .i64) 3 w' w.heap.size (fun _ => True) v419 x5_1) ∧ Aside0 (Below w.heap.size w w'))
   case atStart => exact ⟨(y418), (0), (by first | rfl | (simp; done) | (simp [*]; done)), H', ⟨Nat.le_refl _⟩, ⟨by (with_reducible repeat (first | apply Kd.R_alloc | apply Kd.R_drewN | apply Kd.R_drew)); exact HO420.out⟩, ⟨by repeat (first | (with_reducible first | exact HB.out | apply below_alloc | apply pw_below_drewN | apply below_drew1) | exact HB.out)⟩⟩
   case round =>
    clear H'
    try clear p2
    try clear c3
    try clear c3b0
    try clear c3b1
    try clear c4
    try clear c4b0
    try clear c4b1
    obtain ⟨x5_1, x6_1, rfl, HA, HK1, HO_5, HB⟩ := hrel
    cases gk with
    | zero => exact absurd HA.out (by simp [turndownlaw07_tame.l0])
    | succ k1 =>
     have H := HA.out
     clear HA
     simp only [turndownlaw07_tame.l0] at H
     by_cases c7 : x6_1 < a1
     ·
      rw [if_pos c7] at H
      have c7b0 : decide (x6_1 < a1) = true := decide_eq_true c7
      clear c7
      have HC8 := Aside0.mk H
      clear H
      go_upto_if 21 with (fail)
      go_cut [7] (fun v7 wc => ∃ (kq : Nat) (x7_7 : Int), v7 = .int .i64 x7_7 ∧ Aside0 (turndownlaw07_tame.j1 kq l0 a1 x5_1 x6_1 x7_7 = some r) ∧ Aside0 (kq ≤ k1) ∧ Aside0 (Kd.R (Kd.int .i64) 3 wc w.heap.size (fun _ => True) v419 x5_1) ∧ Aside0 (Below w.heap.size w wc))
      case first =>
       have H := HC8.out
       clear HC8
       by_cases c9 : x6_1 < (l0.length : Int)
       ·
        rw [if_pos c9] at H
        have c9b0 : decide (x6_1 < (l0.length : Int)) = true := decide_eq_true c9
        clear c9
        (first | rw [c9b0] | (simp only [i64_w, i32_w]; rw [c9b0]) | skip)
        by_cases c10 : 0 ≤ x6_1
        ·
         rw [if_pos c10] at H
         have c10b0 : decide (0 ≤ x6_1) = true := decide_eq_true c10
         clear c10
         replace H := Option.bind_eq_some_iff.mp H
         obtain ⟨t422, A110, H⟩ := H
         replace H : (turndownlaw07_tame.j1 k1 l0 a1 x5_1 x6_1 t422) = some r := H
         have A11 := Aside0.mk A110
         clear A110
         have H' := Aside0.mk H
         clear H
         have p421 : 0 ≤ (x6_1 : Int) := of_decide_eq_true (by first | (with_reducible assumption) | assumption)
         have q421 : x6_1 < (l0.length : Int) := of_decide_eq_true (by first | (with_reducible assumption) | assumption)
         obtain ⟨ad421, e421, hx421_0⟩ := Kd.at_int HR0.out x6_1 p421 q421
         cases e421
         replace hx421_0 := (HB.out.cell (World.block_lt_of_cell? w _ hx421_0)).trans hx421_0
         replace p421 := eq_true p421
         replace q421 := eq_true q421
         go_wp2_with (first | ((with_reducible refine gate_callee (f := 36) rfl ?_); refine goesL_ (some 26) rfl rfl Try.func36 (by kernel_rfl) rfl #[.int .i64 (rd l0 x6_1), .int .i64 31] rfl (by (try simp only [List.map_toArray, List.map_cons, List.map_nil]); first | done | rfl | (simp only [List.length_drop, List.length_take]; rfl)) ?_; (with_reducible refine (turndownlaw07_mod.calls (rd l0 x6_1) 31 t422 _ A11.out).mono ?_); rintro e w' ⟨rfl, ⟨nd, rfl⟩⟩; refine ⟨_, rfl, ?_⟩))
         go_meet
         case rel => exact ⟨_, (t422), (by first | rfl | (simp; done) | (simp [*]; done)), H', ⟨by have := HK1.out; first | omega | exact Nat.le_refl _⟩, ⟨by (with_reducible repeat (first | apply Kd.R_alloc | apply Kd.R_drewN | apply Kd.R_drew)); exact HO_5.out⟩, ⟨by repeat (first | (with_reducible first | exact HB.out | apply below_alloc | apply pw_below_drewN | apply below_drew1) | exact HB.out)⟩⟩
        ·
         rw [if_neg c10] at H
         exact absurd H (by simp)
       ·
        rw [if_neg c9] at H
        have c9b0 : decide (x6_1 < (l0.length : Int)) = false := decide_eq_false c9
        clear c9
        (first | rw [c9b0] | (simp only [i64_w, i32_w]; rw [c9b0]) | skip)
        have H' := Aside0.mk H
        clear H
        go_wp2
        go_meet
        case rel => exact ⟨_, (wrap64 (5 * x6_1)), (by first | rfl | (simp; done) | (simp [*]; done)), H', ⟨by have := HK1.out; first | omega | exact Nat.le_refl _⟩, ⟨by (with_reducible repeat (first | apply Kd.R_alloc | apply Kd.R_drewN | apply Kd.R_drew)); exact HO_5.out⟩, ⟨by repeat (first | (with_reducible first | exact HB.out | apply below_alloc | apply pw_below_drewN | apply below_drew1) | exact HB.out)⟩⟩
      case rest =>
       clear HC8
       try clear c1
       try clear p2
       try clear c3
       try clear c3b0
       try clear c3b1
       try clear c4
       try clear c4b0
       try clear c4b1
       try clear p4
       try clear q4
       try clear hx4
       try clear p6
       try clear c7
       try clear c7b0
       try clear c9
       try clear c9b0
       try clear c10
       try clear c10b0
       try clear hx421_0
       try clear p2
       try clear p421
       try clear q421
       obtain ⟨kq, x7_7, rfl, HA, HJ7, HO_5, HB⟩ := hcut
       cases kq with
       | zero => exact absurd HA.out (by simp [turndownlaw07_tame.j1])
       | succ kj7 =>
        have H := HA.out
        clear HA
        simp only [turndownlaw07_tame.j1] at H
        have H' := Aside0.mk H
        clear H
        go_wp2
        go_loopg [8] kj7 (fun kq v8 w' => ∃ (x5_3 : List Int) (x8_3 : Int), v8 = .int .i64 x8_3 ∧ Aside0 (turndownlaw07_tame.l1 kq l0 a1 x5_3 x6_1 x7_7 x8_3 = some r) ∧ Aside0 (kq ≤ kj7) ∧ Aside0 (Kd.R (Kd.int .i64) 3 w' w.heap.size (fun _ => True) v419 x5_3) ∧ Aside0 (Below w.heap.size w w'))
        case atStart => exact ⟨(x5_1), (x6_1), (by first | rfl | (simp; done) | (simp [*]; done)), H', ⟨Nat.le_refl _⟩, ⟨by (with_reducible repeat (first | apply Kd.R_alloc | apply Kd.R_drewN | apply Kd.R_drew)); exact HO_5.out⟩, ⟨by repeat (first | (with_reducible first | exact HB.out | apply below_alloc | apply pw_below_drewN | apply below_drew1) | exact HB.out)⟩⟩
        case round =>
         clear H'
         try clear c1
         try clear p2
         try clear c3
         try clear c3b0
         try clear c3b1
         try clear c4
         try clear c4b0
         try clear c4b1
         try clear p4
         try clear q4
         try clear hx4
         try clear p6
         try clear c7
         try clear c7b0
         try clear c9
         try clear c9b0
         try clear c10
         try clear c10b0
         try clear hx421_0
         try clear p2
         try clear p4
         try clear p421
         try clear p6
         try clear q4
         try clear q421
         obtain ⟨x5_3, x8_3, rfl, HA, HK3, HO_5, HB⟩ := hrel
         cases gk with
         | zero => exact absurd HA.out (by simp [turndownlaw07_tame.l1])
         | succ k3 =>
          have H := HA.out
          clear HA
          simp only [turndownlaw07_tame.l1] at H
          by_cases c12 : x8_3 > 0
          ·
           rw [if_pos c12] at H
           have c12b0 : decide (0 < x8_3) = true := decide_eq_true c12
           clear c12
           obtain ⟨ji13, hji13⟩ : ∃ j_ : Int, (wrap64 (x8_3 - 1)) = j_ := ⟨_, rfl⟩
           replace H : (if 0 ≤ (ji13) then (if (ji13) < (x5_3.length : Int) then (if (rd x5_3 (ji13)) > x7_7 then (if 0 ≤ x8_3 then (if x8_3 < (x5_3.length : Int) then (turndownlaw07_tame.l1 k3 l0 a1 (x5_3.set (x8_3 : Int).toNat (rd x5_3 (ji13))) x6_1 x7_7 ji13) else (none)) else (none)) else (if 0 ≤ x8_3 then (if x8_3 < (x5_3.length : Int) then (turndownlaw07_tame.l0 k3 l0 a1 (x5_3.set (x8_3 : Int).toNat x7_7) (wrap64 (x6_1 + 1))) else (none)) else (none))) else (none)) else (none)) = some r := by first | (rw [hji13] at H; exact H) | (simp only [hji13] at H ⊢; exact H)
           have hji13w : (IntKind.i64.wrap (x8_3 - 1)) = ji13 := (i64_w _).trans hji13
           by_cases c14 : 0 ≤ (ji13)
           ·
            rw [if_pos c14] at H
            have c14b0 : decide (0 ≤ (ji13)) = true := decide_eq_true c14
            clear c14
            by_cases c15 : (ji13) < (x5_3.length : Int)
            ·
             rw [if_pos c15] at H
             have c15b0 : decide ((ji13) < (x5_3.length : Int)) = true := decide_eq_true c15
             clear c15
             by_cases c16 : (rd x5_3 (ji13)) > x7_7
             ·
              rw [if_pos c16] at H
              have c16b0 : decide (x7_7 < (rd x5_3 (ji13))) = true := decide_eq_true c16
              clear c16
              by_cases c17 : 0 ≤ x8_3
              ·
               rw [if_pos c17] at H
               have c17b0 : decide (0 ≤ x8_3) = true := decide_eq_true c17
               clear c17
               by_cases c18 : x8_3 < (x5_3.length : Int)
               ·
                rw [if_pos c18] at H
                have c18b0 : decide (x8_3 < (x5_3.length : Int)) = true := decide_eq_true c18
                clear c18
                obtain ⟨y425, hy425⟩ : ∃ y_ : List Int, y_ = (x5_3.set (x8_3 : Int).toNat (rd x5_3 (ji13))) := ⟨_, rfl⟩
                replace H : (turndownlaw07_tame.l1 k3 l0 a1 y425 x6_1 x7_7 ji13) = some r := by first | (rw [hy425]; with_reducible exact H) | (have H2_ := (Option.bind_some _ _).symm.trans H; rw [hy425]; with_reducible exact H2_) | (have H2_ := (Option.bind_some _ _).symm.trans H; with_reducible exact H2_) | with_reducible exact H | (rw [hy425]; exact H) | exact H
                have Ny425 := Aside0.mk hy425
                clear hy425
                have H' := Aside0.mk H
                clear H
                obtain ⟨Ao20, co20, eo20⟩ := Kd.R_slice HO_5.out
                subst eo20
                have p423 : 0 ≤ ((ji13) : Int) := of_decide_eq_true (by first | (with_reducible assumption) | assumption)
                have q423 : (ji13) < (x5_3.length : Int) := of_decide_eq_true (by first | (with_reducible assumption) | assumption)
                obtain ⟨ad423, e423, hx423_0⟩ := Kd.at_int (Kd.R_reads' HO_5.out).2.2 (ji13) p423 q423
                cases e423
                replace p423 := eq_true p423
                replace q423 := eq_true q423
                have p424 : 0 ≤ ((ji13) : Int) := of_decide_eq_true (by first | (with_reducible assumption) | assumption)
                have q424 : (ji13) < (x5_3.length : Int) := of_decide_eq_true (by first | (with_reducible assumption) | assumption)
                obtain ⟨ad424, e424, hx424_0⟩ := Kd.at_int (Kd.R_reads' HO_5.out).2.2 (ji13) p424 q424
                obtain rfl : ad423 = ad424 := (by injection e424)
                replace p424 := eq_true p424
                replace q424 := eq_true q424
                have p19 : 0 ≤ (x8_3 : Int) := of_decide_eq_true (by first | (with_reducible assumption) | assumption)
                have q19 : (x8_3 : Int) < ((x5_3.length : Int) : Int) := of_decide_eq_true (by first | (with_reducible assumption) | assumption)
                obtain ⟨go19, co19, eo19, gb19, gl19, cl19, HG19⟩ := Kd.R_form HO_5.out (by omega)
                (first | cases eo19 | (injection eo19 with ea_ en_ ec_; (first | subst ea_ | (injection ea_ with ea_; subst ea_)); subst ec_; clear en_))
                have GB19 := Aside0.mk gb19
                have GG19 := Aside0.mk HG19
                clear gb19 gl19 HG19
                (first | simp only [add_plain] at hx423_0 | skip)
                (first | simp only [add_plain] at hx424_0 | skip)
                obtain ⟨hx19_0, hf19_0⟩ := Kd.R_celln 0 HO_5.out (x8_3 : Int) p19 q19
                replace p19 := eq_true p19
                replace q19 := eq_true q19
                have HP21 := Kd.R_putg HO_5.out (x8_3 : Int) (rd x5_3 (ji13))
                go_wp2_with (first | ((with_reducible refine gate_store (t := 3) (p := 46) rfl ?_); refine store_event (t := 3) (p := 46) (v := ?vo_w22) (w1 := (wr.setCell ⟨go19, (x8_3 : Int).toNat, none⟩ (.int .i64 (rd x5_3 (ji13))))) ?hg ?ho ?hn ?hr ?_; (case ho => rfl); (case hg => rfl); (case hn => rfl); (case hr => first | (go_simp; done) | (go_simp; rfl)); intro w22 hw; have hg : wr.grownBy w22 (some go19) := (by rw [hw]; exact HP21.2); have hp_ : Kd.R (Kd.int .i64) 3 w22 w.heap.size (fun _ => True) (.slice (some ⟨go19, 0, none⟩) x5_3.length co20) y425 := (by rw [hw, Ny425.out]; exact HP21.1); clear HP21; have n0_ := Aside0.mk (hp_); have n1_ := Aside0.mk ((by rw [hw]; exact below_set (HB.out) GB19.out : Below w.heap.size w w22)); clear HO_5; clear HB; have HO_5 := n0_; have HB := n1_; clear n0_ n1_; clear hg hw hp_))
                go_roundg k3
                case measure => have := HK1.out; have := HJ7.out; have := HK3.out; omega
                case rel => exact ⟨(y425), (ji13), (by first | rfl | (simp; done) | (simp only [← hji13] <;> (first | rfl | simp)) | (simp [*]; done)), H', ⟨by have := HK1.out; have := HJ7.out; have := HK3.out; omega⟩, ⟨by (with_reducible repeat (first | apply Kd.R_alloc | apply Kd.R_drewN | apply Kd.R_drew)); exact HO_5.out⟩, ⟨by repeat (first | (with_reducible first | exact HB.out | apply below_alloc | apply pw_below_drewN | apply below_drew1) | exact HB.out)⟩⟩
               ·
                rw [if_neg c18] at H
                exact absurd H (by simp)
              ·
               rw [if_neg c17] at H
               exact absurd H (by simp)
             ·
              rw [if_neg c16] at H
              have c16b0 : decide (x7_7 < (rd x5_3 (ji13))) = false := decide_eq_false c16
              clear c16
              by_cases c23 : 0 ≤ x8_3
              ·
               rw [if_pos c23] at H
               have c23b0 : decide (0 ≤ x8_3) = true := decide_eq_true c23
               clear c23
               by_cases c24 : x8_3 < (x5_3.length : Int)
               ·
                rw [if_pos c24] at H
                have c24b0 : decide (x8_3 < (x5_3.length : Int)) = true := decide_eq_true c24
                clear c24
                obtain ⟨y426, hy426⟩ : ∃ y_ : List Int, y_ = (x5_3.set (x8_3 : Int).toNat x7_7) := ⟨_, rfl⟩
                replace H : (turndownlaw07_tame.l0 k3 l0 a1 y426 (wrap64 (x6_1 + 1))) = some r := by first | (rw [hy426]; with_reducible exact H) | (have H2_ := (Option.bind_some _ _).symm.trans H; rw [hy426]; with_reducible exact H2_) | (have H2_ := (Option.bind_some _ _).symm.trans H; with_reducible exact H2_) | with_reducible exact H | (rw [hy426]; exact H) | exact H
                have Ny426 := Aside0.mk hy426
                clear hy426
                have H' := Aside0.mk H
                clear H
                obtain ⟨Ao26, co26, eo26⟩ := Kd.R_slice HO_5.out
                subst eo26
                have p423 : 0 ≤ ((ji13) : Int) := of_decide_eq_true (by first | (with_reducible assumption) | assumption)
                have q423 : (ji13) < (x5_3.length : Int) := of_decide_eq_true (by first | (with_reducible assumption) | assumption)
                obtain ⟨ad423, e423, hx423_0⟩ := Kd.at_int (Kd.R_reads' HO_5.out).2.2 (ji13) p423 q423
                cases e423
                replace p423 := eq_true p423
                replace q423 := eq_true q423
                have p25 : 0 ≤ (x8_3 : Int) := of_decide_eq_true (by first | (with_reducible assumption) | assumption)
                have q25 : (x8_3 : Int) < ((x5_3.length : Int) : Int) := of_decide_eq_true (by first | (with_reducible assumption) | assumption)
                obtain ⟨go25, co25, eo25, gb25, gl25, cl25, HG25⟩ := Kd.R_form HO_5.out (by omega)
                (first | cases eo25 | (injection eo25 with ea_ en_ ec_; (first | subst ea_ | (injection ea_ with ea_; subst ea_)); subst ec_; clear en_))
                have GB25 := Aside0.mk gb25
                have GG25 := Aside0.mk HG25
                clear gb25 gl25 HG25
                (first | simp only [add_plain] at hx423_0 | skip)
                obtain ⟨hx25_0, hf25_0⟩ := Kd.R_celln 0 HO_5.out (x8_3 : Int) p25 q25
                replace p25 := eq_true p25
                replace q25 := eq_true q25
                have HP27 := Kd.R_putg HO_5.out (x8_3 : Int) x7_7
                go_wp2_with (first | ((with_reducible refine gate_store (t := 3) (p := 52) rfl ?_); refine store_event (t := 3) (p := 52) (v := ?vo_w28) (w1 := (wr.setCell ⟨go25, (x8_3 : Int).toNat, none⟩ (.int .i64 x7_7))) ?hg ?ho ?hn ?hr ?_; (case ho => rfl); (case hg => rfl); (case hn => rfl); (case hr => first | (go_simp; done) | (go_simp; rfl)); intro w28 hw; have hg : wr.grownBy w28 (some go25) := (by rw [hw]; exact HP27.2); have hp_ : Kd.R (Kd.int .i64) 3 w28 w.heap.size (fun _ => True) (.slice (some ⟨go25, 0, none⟩) x5_3.length co26) y426 := (by rw [hw, Ny426.out]; exact HP27.1); clear HP27; have n0_ := Aside0.mk (hp_); have n1_ := Aside0.mk ((by rw [hw]; exact below_set (HB.out) GB25.out : Below w.heap.size w w28)); clear HO_5; clear HB; have HO_5 := n0_; have HB := n1_; clear n0_ n1_; clear hg hw hp_))
                go_roundg k3
                case measure => have := HK1.out; have := HJ7.out; have := HK3.out; omega
                case rel => exact ⟨(y426), (wrap64 (x6_1 + 1)), (by first | rfl | (simp; done) | (simp [*]; done)), H', ⟨by have := HK1.out; have := HJ7.out; have := HK3.out; omega⟩, ⟨by (with_reducible repeat (first | apply Kd.R_alloc | apply Kd.R_drewN | apply Kd.R_drew)); exact HO_5.out⟩, ⟨by repeat (first | (with_reducible first | exact HB.out | apply below_alloc | apply pw_below_drewN | apply below_drew1) | exact HB.out)⟩⟩
               ·
                rw [if_neg c24] at H
                exact absurd H (by simp)
              ·
               rw [if_neg c23] at H
               exact absurd H (by simp)
            ·
             rw [if_neg c15] at H
             exact absurd H (by simp)
           ·
            rw [if_neg c14] at H
            exact absurd H (by simp)
          ·
           rw [if_neg c12] at H
           have c12b0 : decide (0 < x8_3) = false := decide_eq_false c12
           clear c12
           by_cases c29 : 0 ≤ x8_3
           ·
            rw [if_pos c29] at H
            have c29b0 : decide (0 ≤ x8_3) = true := decide_eq_true c29
            clear c29
            by_cases c30 : x8_3 < (x5_3.length : Int)
            ·
             rw [if_pos c30] at H
             have c30b0 : decide (x8_3 < (x5_3.length : Int)) = true := decide_eq_true c30
             clear c30
             obtain ⟨y427, hy427⟩ : ∃ y_ : List Int, y_ = (x5_3.set (x8_3 : Int).toNat x7_7) := ⟨_, rfl⟩
             replace H : (turndownlaw07_tame.l0 k3 l0 a1 y427 (wrap64 (x6_1 + 1))) = some r := by first | (rw [hy427]; with_reducible exact H) | (have H2_ := (Option.bind_some _ _).symm.trans H; rw [hy427]; with_reducible exact H2_) | (have H2_ := (Option.bind_some _ _).symm.trans H; with_reducible exact H2_) | with_reducible exact H | (rw [hy427]; exact H) | exact H
             have Ny427 := Aside0.mk hy427
             clear hy427
             have H' := Aside0.mk H
             clear H
             have p31 : 0 ≤ (x8_3 : Int) := of_decide_eq_true (by first | (with_reducible assumption) | assumption)
             have q31 : (x8_3 : Int) < ((x5_3.length : Int) : Int) := of_decide_eq_true (by first | (with_reducible assumption) | assumption)
             obtain ⟨go31, co31, eo31, gb31, gl31, cl31, HG31⟩ := Kd.R_form HO_5.out (by omega)
             (first | cases eo31 | (injection eo31 with ea_ en_ ec_; (first | subst ea_ | (injection ea_ with ea_; subst ea_)); subst ec_; clear en_))
             have GB31 := Aside0.mk gb31
             have GG31 := Aside0.mk HG31
             clear gb31 gl31 HG31
             obtain ⟨hx31_0, hf31_0⟩ := Kd.R_celln 0 HO_5.out (x8_3 : Int) p31 q31
             replace p31 := eq_true p31
             replace q31 := eq_true q31
             have HP32 := Kd.R_putg HO_5.out (x8_3 : Int) x7_7
             go_wp2_with (first | ((with_reducible refine gate_store (t := 3) (p := 52) rfl ?_); refine store_event (t := 3) (p := 52) (v := ?vo_w33) (w1 := (wr.setCell ⟨go31, (x8_3 : Int).toNat, none⟩ (.int .i64 x7_7))) ?hg ?ho ?hn ?hr ?_; (case ho => rfl); (case hg => rfl); (case hn => rfl); (case hr => first | (go_simp; done) | (go_simp; rfl)); intro w33 hw; have hg : wr.grownBy w33 (some go31) := (by rw [hw]; exact HP32.2); have hp_ : Kd.R (Kd.int .i64) 3 w33 w.heap.size (fun _ => True) (.slice (some ⟨go31, 0, none⟩) x5_3.length co31) y427 := (by rw [hw, Ny427.out]; exact HP32.1); clear HP32; have n0_ := Aside0.mk (hp_); have n1_ := Aside0.mk ((by rw [hw]; exact below_set (HB.out) GB31.out : Below w.heap.size w w33)); clear HO_5; clear HB; have HO_5 := n0_; have HB := n1_; clear n0_ n1_; clear hg hw hp_))
             go_roundg k3
             case measure => have := HK1.out; have := HJ7.out; have := HK3.out; omega
             case rel => exact ⟨(y427), (wrap64 (x6_1 + 1)), (by first | rfl | (simp; done) | (simp [*]; done)), H', ⟨by have := HK1.out; have := HJ7.out; have := HK3.out; omega⟩, ⟨by (with_reducible repeat (first | apply Kd.R_alloc | apply Kd.R_drewN | apply Kd.R_drew)); exact HO_5.out⟩, ⟨by repeat (first | (with_reducible first | exact HB.out | apply below_alloc | apply pw_below_drewN | apply below_drew1) | exact HB.out)⟩⟩
            ·
             rw [if_neg c30] at H
             exact absurd H (by simp)
           ·
            rw [if_neg c29] at H
            exact absurd H (by simp)
     ·
      rw [if_neg c7] at H
      have c7b0 : decide (x6_1 < a1) = false := decide_eq_false c7
      clear c7
      obtain rfl := Option.some.inj H
      go_wp2
      go_ret
      exact ⟨_, by first | rfl | (simp [errW_none, errW_some] <;> rfl) | (simp [*, errW_none, errW_some] <;> rfl), by (with_reducible repeat (first | apply Kd.R_alloc | apply Kd.R_drewN | apply Kd.R_drew)); exact HO_5.out, by repeat (first | (with_reducible first | exact HB.out | apply below_alloc | apply pw_below_drewN | apply below_drew1) | exact HB.out)⟩
  ·
   rw [if_neg c4] at H
   exact absurd H (by simp)
 ·
  rw [if_neg c3] at H
  exact absurd H (by simp)
end Go.Proofs.Ytakbijpcfnipoaa.PA

namespace Go.Proofs.Ytakbijpcfnipoaa.PA
open Go.RowKit Go.Proofs.YtakbijpcfnipoaaW.PrintWords Go.Proofs.YtakbijpcfnipoaaW.PrintLast Go.Proofs.YtakbijpcfnipoaaW.PrintMore
attribute [local go_sem] max2_int min2_int max_two min_two max_three min_three max_four min_four
set_option linter.unusedVariables false
set_option linter.unusedSimpArgs false
def turndownlaw07_calls.l0 : Nat → List Int → Int → List Int → Int → Option (List Int)
 | 0, _, _, _, _ => none
 | k + 1, x0, x1, x5, x6 => if x6 < (x0.length : Int) then (if x6 < x1 then (if 0 ≤ x6 then ((turndownlaw07_mod.f (rd x0 x6) 31).bind fun t429 => (if x5.length < 17592186044416 then (turndownlaw07_calls.l0 k x0 x1 (x5 ++ [t429]) (wrap64 (x6 + 1))) else (none))) else (none)) else (some x5)) else (some x5)
def turndownlaw07_calls.f (k : Nat) (l0 : List Int) (a1 : Int) : Option (List Int) := turndownlaw07_calls.l0 k l0 a1 ([] : List Int) 0
set_option maxHeartbeats 8000000 in
set_option maxRecDepth 100000 in
theorem turndownlaw07_calls.calls (k : Nat) (A0 : Option Addr) (c0 : Nat) (l0 : List Int) (a1 : Int) (r : List Int) (w : World) (hr0 : Kd.C (Kd.int .i64) w A0 l0.length l0) (hc0 : l0.length ≤ c0) (h : turndownlaw07_calls.f k l0 a1 = some r) :
  Calls Try.prog 32 #[.slice A0 l0.length c0, .int .i64 a1] w fun e w' => ∃ v0_ : Value, e = .returned (v0_) ∧ Kd.R (Kd.int .i64) 3 w' w.heap.size (fun _ => True) v0_ r ∧ Below w.heap.size w w' := by
 have HR0 := Aside0.mk hr0
 have HC0 := Aside0.mk hc0
 clear hr0 hc0
 have HB := Aside0.mk (Below.refl w.heap.size w)
 have H : (turndownlaw07_calls.l0 k l0 a1 ([] : List Int) 0) = some r := h
 clear h
 have H' := Aside0.mk H
 clear H
 go_enter Try.func32, Try.ntmps32
 go_wp2
 go_loopg [5, 6] k (fun kq v5 v6 w' => ∃ (x5_1 : List Int) (x6_1 : Int), v6 = .int .i64 x6_1 ∧ Aside0 (turndownlaw07_calls.l0 kq l0 a1 x5_1 x6_1 = some r) ∧ Aside0 (kq ≤ k) ∧ Aside0 (Kd.R (Kd.int .i64) 3 w' w.heap.size (fun _ => True) v5 x5_1) ∧ Aside0 (Below w.heap.size w w'))
 case atStart => exact ⟨(([] : List Int)), (0), (by first | rfl | (simp; done) | (simp [*]; done)), H', ⟨Nat.le_refl _⟩, ⟨by first | exact Kd.R_nil _ _ _ _ _ | exact Kd.N_nil _ _ _ _ _ | exact Kd.V_nil _ _ _ _ _ | exact Kd.Q_nil _ _ _ _ _ | exact Kd.S_nil _ _ _ _ _⟩, ⟨by repeat (first | (with_reducible first | exact HB.out | apply below_alloc | apply pw_below_drewN | apply below_drew1) | exact HB.out)⟩⟩
 case round =>
  clear H'
  try clear p2
  obtain ⟨x5_1, x6_1, rfl, HA, HK1, HO_5, HB⟩ := hrel
  cases gk with
  | zero => exact absurd HA.out (by simp [turndownlaw07_calls.l0])
  | succ k1 =>
   have H := HA.out
   clear HA
   simp only [turndownlaw07_calls.l0] at H
   by_cases c3 : x6_1 < (l0.length : Int)
   ·
    rw [if_pos c3] at H
    have c3b0 : decide (x6_1 < (l0.length : Int)) = true := decide_eq_true c3
    clear c3
    by_cases c4 : x6_1 < a1
    ·
     rw [if_pos c4] at H
     have c4b0 : decide (x6_1 < a1) = true := decide_eq_true c4
     clear c4
     by_cases c5 : 0 ≤ x6_1
     ·
      rw [if_pos c5] at H
      have c5b0 : decide (0 ≤ x6_1) = true := decide_eq_true c5
      clear c5
      replace H := Option.bind_eq_some_iff.mp H
      obtain ⟨t429, A60, H⟩ := H
      replace H : (if x5_1.length < 17592186044416 then (turndownlaw07_calls.l0 k1 l0 a1 (x5_1 ++ [t429]) (wrap64 (x6_1 + 1))) else (none)) = some r := H
      have A6 := Aside0.mk A60
      clear A60
      by_cases c7 : x5_1.length < 17592186044416
      ·
       rw [if_pos c7] at H
       have LMc7 := Aside0.mk c7
       clear c7
       obtain ⟨y430, hy430⟩ : ∃ y_ : List Int, y_ = (x5_1 ++ [t429]) := ⟨_, rfl⟩
       replace H : (turndownlaw07_calls.l0 k1 l0 a1 y430 (wrap64 (x6_1 + 1))) = some r := by first | (rw [hy430]; with_reducible exact H) | (have H2_ := (Option.bind_some _ _).symm.trans H; rw [hy430]; with_reducible exact H2_) | (have H2_ := (Option.bind_some _ _).symm.trans H; with_reducible exact H2_) | with_reducible exact H | (rw [hy430]; exact H) | exact H
       have Ny430 := Aside0.mk hy430
       clear hy430
       have H' := Aside0.mk H
       clear H
       have p428 : 0 ≤ (x6_1 : Int) := of_decide_eq_true (by first | (with_reducible assumption) | assumption)
       have q428 : x6_1 < (l0.length : Int) := of_decide_eq_true (by first | (with_reducible assumption) | assumption)
       obtain ⟨ad428, e428, hx428_0⟩ := Kd.at_int HR0.out x6_1 p428 q428
       cases e428
       replace hx428_0 := (HB.out.cell (World.block_lt_of_cell? w _ hx428_0)).trans hx428_0
       replace p428 := eq_true p428
       replace q428 := eq_true q428
       go_wp2_with (first | ((with_reducible refine gate_callee (f := 36) rfl ?_); refine goesL_ (some 23) rfl rfl Try.func36 (by kernel_rfl) rfl #[.int .i64 (rd l0 x6_1), .int .i64 31] rfl (by (try simp only [List.map_toArray, List.map_cons, List.map_nil]); first | done | rfl | (simp only [List.length_drop, List.length_take]; rfl)) ?_; (with_reducible refine (turndownlaw07_mod.calls (rd l0 x6_1) 31 t429 _ A6.out).mono ?_); rintro e w' ⟨rfl, ⟨nd, rfl⟩⟩; refine ⟨_, rfl, ?_⟩) | ((with_reducible refine gate_builtin (b := .append) (xs := #[.tmp 18, .tmp 24]) rfl ?_); at_builtin; refine Kd.R_append (Kd.int .i64) (w0 := w) w.heap.size rfl (.tmp 18) (.tmp 24) 22 3 (.int .i64 0) 8 rfl Try.underlying22 info3 rfl (by decide) (by omega) u5 x5_1 t429 [.int .i64 t429] (fun _ => True) (fun _ => False) rfl rfl ?aP (fun _ hk => hk.elim) ?aF ?aO ?aB ?aS ?aL ?_; (case aP => exact rfl); (case aB => exact (by repeat (first | (with_reducible first | exact HB.out | apply below_alloc | apply pw_below_drewN | apply below_drew1) | exact HB.out))); (case aF => exact (fun _ _ => trivial)); (case aO => exact (by (with_reducible repeat (first | apply Kd.R_alloc | apply Kd.R_drewN | apply Kd.R_drew)); exact HO_5.out)); (case aS => exact (below_size (by repeat (first | (with_reducible first | exact HB.out | apply below_alloc | apply pw_below_drewN | apply below_drew1) | exact HB.out)))); (case aL => have := LMc7.out; omega); intro v431 w8 ho hb hg hat; rw [← Ny430.out] at ho; have n0_ := Aside0.mk (hb); have n1_ := Aside0.mk (ho); clear HB; clear HO_5; have HB := n0_; have HO432 := n1_; clear n0_ n1_; clear ho hb hg hat))
       go_roundg k1
       case measure => have := HK1.out; omega
       case rel => exact ⟨(y430), (wrap64 (x6_1 + 1)), (by first | rfl | (simp; done) | (simp [*]; done)), H', ⟨by have := HK1.out; omega⟩, ⟨by (with_reducible repeat (first | apply Kd.R_alloc | apply Kd.R_drewN | apply Kd.R_drew)); exact HO432.out⟩, ⟨by repeat (first | (with_reducible first | exact HB.out | apply below_alloc | apply pw_below_drewN | apply below_drew1) | exact HB.out)⟩⟩
      ·
       rw [if_neg c7] at H
       exact absurd H (by simp)
     ·
      rw [if_neg c5] at H
      exact absurd H (by simp)
    ·
     rw [if_neg c4] at H
     have c4b0 : decide (x6_1 < a1) = false := decide_eq_false c4
     clear c4
     obtain rfl := Option.some.inj H
     go_wp2
     go_ret
     exact ⟨_, by first | rfl | (simp [errW_none, errW_some] <;> rfl) | (simp [*, errW_none, errW_some] <;> rfl), by (with_reducible repeat (first | apply Kd.R_alloc | apply Kd.R_drewN | apply Kd.R_drew)); exact HO_5.out, by repeat (first | (with_reducible first | exact HB.out | apply below_alloc | apply pw_below_drewN | apply below_drew1) | exact HB.out)⟩
   ·
    rw [if_neg c3] at H
    have c3b0 : decide (x6_1 < (l0.length : Int)) = false := decide_eq_false c3
    clear c3
    obtain rfl := Option.some.inj H
    go_wp2
    go_ret
    exact ⟨_, by first | rfl | (simp [errW_none, errW_some] <;> rfl) | (simp [*, errW_none, errW_some] <;> rfl), by (with_reducible repeat (first | apply Kd.R_alloc | apply Kd.R_drewN | apply Kd.R_drew)); exact HO_5.out, by repeat (first | (with_reducible first | exact HB.out | apply below_alloc | apply pw_below_drewN | apply below_drew1) | exact HB.out)⟩
end Go.Proofs.Ytakbijpcfnipoaa.PA

namespace Go.Proofs.Ytakbijpcfnipoaa.PA
open Go.RowKit Go.Proofs.YtakbijpcfnipoaaW.PrintWords Go.Proofs.YtakbijpcfnipoaaW.PrintLast Go.Proofs.YtakbijpcfnipoaaW.PrintMore
attribute [local go_sem] max2_int min2_int max_two min_two max_three min_three max_four min_four
set_option linter.unusedVariables false
set_option linter.unusedSimpArgs false
mutual
def turndownlaw07_served.l0 : Nat → List (List Int) → Int → List Int → List (List Int) → Int → Option ((List (List Int)))
 | 0, _, _, _, _, _ => none
 | k + 1, x0, x1, x2, x7, x8 => if x8 < (x2.length : Int) then (if x8 < (x0.length : Int) then (if 0 ≤ x8 then ((turndownlaw07_tame.f k (rd_L1 x0 x8) x1).bind fun t434 => (turndownlaw07_served.j1 k x0 x1 x2 x7 x8 t434)) else (none)) else ((turndownlaw07_tame.f k ([] : List Int) x1).bind fun t437 => (turndownlaw07_served.j1 k x0 x1 x2 x7 x8 t437))) else (some x7)
def turndownlaw07_served.j1 : Nat → List (List Int) → Int → List Int → List (List Int) → Int → List Int → Option ((List (List Int)))
 | 0, _, _, _, _, _, _ => none
 | k + 1, x0, x1, x2, x7, x8, x9 => turndownlaw07_served.l1 k x0 x1 x2 x7 x8 x9 false 0
def turndownlaw07_served.l1 : Nat → List (List Int) → Int → List Int → List (List Int) → Int → List Int → Bool → Int → Option ((List (List Int)))
 | 0, _, _, _, _, _, _, _, _ => none
 | k + 1, x0, x1, x2, x7, x8, x9, x10, x11 => if x11 < x1 then (if x10 = true then (turndownlaw07_served.l1 k x0 x1 x2 x7 x8 x9 true (wrap64 (x11 + 1))) else (if 0 ≤ x11 then (if x11 < (x9.length : Int) then (if 0 ≤ x8 then (if x8 < (x2.length : Int) then (turndownlaw07_served.l1 k x0 x1 x2 x7 x8 x9 ((rd x9 x11) == (rd x2 x8)) (wrap64 (x11 + 1))) else (none)) else (none)) else (none)) else (none))) else (if x10 = true then (if x7.length < 5864062014805 then (turndownlaw07_served.l0 k x0 x1 x2 (x7 ++ [x9]) (wrap64 (x8 + 1))) else (none)) else (if 0 ≤ x8 then (if x8 < (x2.length : Int) then ((turndownlaw07_mod.f (rd x2 x8) x1).bind fun t446 => (if 0 ≤ t446 then (if t446 < (x9.length : Int) then ((turndownlaw07_tame.f k (x9.set (t446 : Int).toNat (rd x2 x8)) x1).bind fun t449 => (if x7.length < 5864062014805 then (turndownlaw07_served.l0 k x0 x1 x2 (x7 ++ [t449]) (wrap64 (x8 + 1))) else (none))) else (none)) else (none))) else (none)) else (none)))
end
def turndownlaw07_served.f (k : Nat) (l0 : List (List Int)) (a1 : Int) (l2 : List Int) : Option ((List (List Int))) := turndownlaw07_served.l0 k l0 a1 l2 ([] : List (List Int)) 0
def turndownlaw07_served.T13 : Bool × List (List Nat × List Nat) := (true, [([], []), ([0], [0]), ([1], [1]), ([1], [1]), ([2, 3, 1], [1, 2, 3]), ([4, 1], [1, 4]), ([1], [1]), ([1], [1]), ([6, 7, 1], [1, 6, 7]), ([8, 1], [1, 8]), ([5, 9, 1], [1, 5, 9]), ([1, 10], [1, 10]), ([11, 1, 0, 1, 2, 3, 4, 5, 6, 7, 8, 9, 10, 11], [0, 11])])
def turndownlaw07_served.B13 : List Nat := [0, 1, 3, 3, 15, 31, 3, 3, 195, 451, 1023, 2047, 4095]
theorem turndownlaw07_served.tab13 : rtab .any (opsOf Try.f33 13) = turndownlaw07_served.T13 := by kernel_rfl
theorem turndownlaw07_served.bits13 : waitsOk turndownlaw07_served.T13.2 turndownlaw07_served.B13 = true := by kernel_rfl
def turndownlaw07_served.T15 : Bool × List (List Nat × List Nat) := (true, [([], []), ([], []), ([], []), ([1, 2], [1, 2]), ([3], [3]), ([], []), ([4, 5], [4, 5]), ([], []), ([], []), ([7, 8], [7, 8]), ([9], [9]), ([0, 6, 0, 1, 2, 3, 4, 5, 6, 7, 8, 9, 10], [0, 6]), ([11, 10, 6, 0, 1, 2, 3, 4, 5, 6, 7, 8, 9, 10], [10, 11])])
def turndownlaw07_served.B15 : List Nat := [0, 0, 0, 6, 14, 0, 62, 0, 0, 384, 896, 2047, 4095]
theorem turndownlaw07_served.tab15 : rtab .any (opsOf Try.f33 15) = turndownlaw07_served.T15 := by kernel_rfl
theorem turndownlaw07_served.bits15 : waitsOk turndownlaw07_served.T15.2 turndownlaw07_served.B15 = true := by kernel_rfl
set_option maxHeartbeats 8000000 in
set_option maxRecDepth 100000 in
theorem turndownlaw07_served.calls (k : Nat) (A0 : Option Addr) (c0 : Nat) (l0 : List (List Int)) (a1 : Int) (A2 : Option Addr) (c2 : Nat) (l2 : List Int) (r : List (List Int)) (w : World) (hr0 : Kd.C (Kd.slice 3 (Kd.int .i64)) w A0 l0.length l0) (hc0 : l0.length ≤ c0) (hr2 : Kd.C (Kd.int .i64) w A2 l2.length l2) (hc2 : l2.length ≤ c2) (h : turndownlaw07_served.f k l0 a1 l2 = some r) :
  Calls Try.prog 33 #[.slice A0 l0.length c0, .int .i64 a1, .slice A2 l2.length c2] w fun e w' => ∃ v0_ : Value, e = .returned (v0_) ∧ Kd.S (Kd.slice 3 (Kd.int .i64)) 22 w' w.heap.size (fun _ => True) v0_ r ∧ Below w.heap.size w w' := by
 have HR0 := Aside0.mk hr0
 have HC0 := Aside0.mk hc0
 clear hr0 hc0
 have HR2 := Aside0.mk hr2
 have HC2 := Aside0.mk hc2
 clear hr2 hc2
 have HB := Aside0.mk (Below.refl w.heap.size w)
 have H : (turndownlaw07_served.l0 k l0 a1 l2 ([] : List (List Int)) 0) = some r := h
 clear h
 have H' := Aside0.mk H
 clear H
 go_enter Try.func33, Try.ntmps33
 go_wp2
 go_loopg [7, 8] k (fun kq v7 v8 w' => ∃ (x7_1 : List (List Int)) (x8_1 : Int), v8 = .int .i64 x8_1 ∧ Aside0 (turndownlaw07_served.l0 kq l0 a1 l2 x7_1 x8_1 = some r) ∧ Aside0 (kq ≤ k) ∧ Aside0 (Kd.S (Kd.slice 3 (Kd.int .i64)) 22 w' w.heap.size (fun _ => True) v7 x7_1) ∧ Aside0 (Below w.heap.size w w'))
 case atStart => exact ⟨(([] : List (List Int))), (0), (by first | rfl | (simp; done) | (simp [*]; done)), H', ⟨Nat.le_refl _⟩, ⟨by first | exact Kd.S_nil _ _ _ _ _ | exact Kd.N_nil _ _ _ _ _ | exact Kd.V_nil _ _ _ _ _ | exact Kd.Q_nil _ _ _ _ _ | exact Kd.R_nil _ _ _ _ _⟩, ⟨by repeat (first | (with_reducible first | exact HB.out | apply below_alloc | apply pw_below_drewN | apply below_drew1) | exact HB.out)⟩⟩
 case round =>
  clear H'
  try clear c2
  try clear p2
  try clear c3
  obtain ⟨x7_1, x8_1, rfl, HA, HK1, HO_7, HB⟩ := hrel
  cases gk with
  | zero => exact absurd HA.out (by simp [turndownlaw07_served.l0])
  | succ k1 =>
   have H := HA.out
   clear HA
   simp only [turndownlaw07_served.l0] at H
   by_cases c4 : x8_1 < (l2.length : Int)
   ·
    rw [if_pos c4] at H
    have c4b0 : decide (x8_1 < (l2.length : Int)) = true := decide_eq_true c4
    clear c4
    have HC5 := Aside0.mk H
    clear H
    go_upto_if 21 with (fail)
    go_cut [9] (fun v9 wc => ∃ (kq : Nat) (x9_4 : List Int), Aside0 (turndownlaw07_served.j1 kq l0 a1 l2 x7_1 x8_1 x9_4 = some r) ∧ Aside0 (kq ≤ k1) ∧ Aside0 (Kd.S (Kd.slice 3 (Kd.int .i64)) 22 wc w.heap.size (fun k_ => some k_ ≠ (v9 : Value).ownBlock) u7 x7_1) ∧ Aside0 (Kd.R (Kd.int .i64) 3 wc w.heap.size (fun _ => True) v9 x9_4) ∧ Aside0 (Below w.heap.size w wc))
    case first =>
     have H := HC5.out
     clear HC5
     by_cases c6 : x8_1 < (l0.length : Int)
     ·
      rw [if_pos c6] at H
      have c6b0 : decide (x8_1 < (l0.length : Int)) = true := decide_eq_true c6
      clear c6
      (first | rw [c6b0] | (simp only [i64_w, i32_w]; rw [c6b0]) | skip)
      by_cases c7 : 0 ≤ x8_1
      ·
       rw [if_pos c7] at H
       have c7b0 : decide (0 ≤ x8_1) = true := decide_eq_true c7
       clear c7
       replace H := Option.bind_eq_some_iff.mp H
       obtain ⟨t434, A80, H⟩ := H
       replace H : (turndownlaw07_served.j1 k1 l0 a1 l2 x7_1 x8_1 t434) = some r := H
       have A8 := Aside0.mk A80
       clear A80
       have H' := Aside0.mk H
       clear H
       have p433 : 0 ≤ (x8_1 : Int) := of_decide_eq_true (by first | (with_reducible assumption) | assumption)
       have q433 : x8_1 < (l0.length : Int) := of_decide_eq_true (by first | (with_reducible assumption) | assumption)
       obtain ⟨ad433, A433_0, c433_0, e433, hx433_0, hl433_0, hi433_0⟩ := at_L1 HR0.out x8_1 p433 q433
       cases e433
       replace hx433_0 := (HB.out.cell (World.block_lt_of_cell? w _ hx433_0)).trans hx433_0
       have HR433_0 := Aside0.mk hi433_0
       have HC433_0 := Aside0.mk hl433_0
       clear hi433_0 hl433_0
       replace p433 := eq_true p433
       replace q433 := eq_true q433
       go_wp2_with (first | ((with_reducible refine gate_callee (f := 31) rfl ?_); refine goesL_ (some 27) rfl rfl Try.func31 (by kernel_rfl) rfl #[.slice A433_0 (rd_L1 l0 x8_1).length c433_0, .int .i64 a1] rfl (by (try simp only [List.map_toArray, List.map_cons, List.map_nil]); first | done | rfl | (simp only [List.length_drop, List.length_take]; rfl)) ?_; (with_reducible refine (turndownlaw07_tame.calls k1 _ _ (rd_L1 l0 x8_1) a1 t434 _ ?side1 ?side2 A8.out).mono ?_); (case side1 => repeat (first | exact (Kd.C_below HR433_0.out HB.out) | (with_reducible refine Kd.C_alloc ?_ _) | (with_reducible refine Kd.C_drewN ?_ _) | (with_reducible refine Kd.C_drew ?_))); (case side2 => exact HC433_0.out); rintro e w9 ⟨v435, rfl, ho0, hb⟩; refine ⟨_, rfl, ?_⟩; have n0_ := Aside0.mk (Kd.S_elder' (by (with_reducible repeat (first | apply Kd.S_alloc | apply Kd.S_drewN | apply Kd.S_drew)); exact HO_7.out) (Kd.R_base ho0) hb); have n1_ := Aside0.mk (Kd.R_lower ho0 (below_size (by repeat (first | (with_reducible first | exact HB.out | apply below_alloc | apply pw_below_drewN | apply below_drew1) | exact HB.out)))); have n2_ := Aside0.mk (below_step (by repeat (first | (with_reducible first | exact HB.out | apply below_alloc | apply pw_below_drewN | apply below_drew1) | exact HB.out)) hb); clear HO_7; clear HB; have HO_7 := n0_; have HO436 := n1_; have HB := n2_; clear n0_ n1_ n2_; (try clear hb); (try clear hb2); (try clear hk); (try clear hi); (try clear ho0)))
       go_meet
       case rel => exact ⟨_, (t434), H', ⟨by have := HK1.out; first | omega | exact Nat.le_refl _⟩, ⟨by (with_reducible repeat (first | apply Kd.S_alloc | apply Kd.S_drewN | apply Kd.S_drew)); exact Kd.S_mono HO_7.out (fun _ hk => hk.2)⟩, ⟨by (with_reducible repeat (first | apply Kd.R_alloc | apply Kd.R_drewN | apply Kd.R_drew)); exact HO436.out⟩, ⟨by repeat (first | (with_reducible first | exact HB.out | apply below_alloc | apply pw_below_drewN | apply below_drew1) | exact HB.out)⟩⟩
      ·
       rw [if_neg c7] at H
       exact absurd H (by simp)
     ·
      rw [if_neg c6] at H
      have c6b0 : decide (x8_1 < (l0.length : Int)) = false := decide_eq_false c6
      clear c6
      (first | rw [c6b0] | (simp only [i64_w, i32_w]; rw [c6b0]) | skip)
      replace H := Option.bind_eq_some_iff.mp H
      obtain ⟨t437, A100, H⟩ := H
      replace H : (turndownlaw07_served.j1 k1 l0 a1 l2 x7_1 x8_1 t437) = some r := H
      have A10 := Aside0.mk A100
      clear A100
      have H' := Aside0.mk H
      clear H
      go_wp2_with (first | ((with_reducible refine gate_callee (f := 31) rfl ?_); refine goesL_ (some 29) rfl rfl Try.func31 (by kernel_rfl) rfl #[.slice none 0 0, .int .i64 a1] rfl (by (try simp only [List.map_toArray, List.map_cons, List.map_nil]); first | done | rfl | (simp only [List.length_drop, List.length_take]; rfl)) ?_; (refine (turndownlaw07_tame.calls k1 _ _ ([] : List Int) a1 t437 _ ?side1 ?side2 A10.out).mono ?_); (case side1 => exact Kd.C_nil _ _); (case side2 => exact Nat.le_refl _); rintro e w11 ⟨v438, rfl, ho0, hb⟩; refine ⟨_, rfl, ?_⟩; have n0_ := Aside0.mk (Kd.S_elder' (by (with_reducible repeat (first | apply Kd.S_alloc | apply Kd.S_drewN | apply Kd.S_drew)); exact HO_7.out) (Kd.R_base ho0) hb); have n1_ := Aside0.mk (Kd.R_lower ho0 (below_size (by repeat (first | (with_reducible first | exact HB.out | apply below_alloc | apply pw_below_drewN | apply below_drew1) | exact HB.out)))); have n2_ := Aside0.mk (below_step (by repeat (first | (with_reducible first | exact HB.out | apply below_alloc | apply pw_below_drewN | apply below_drew1) | exact HB.out)) hb); clear HO_7; clear HB; have HO_7 := n0_; have HO439 := n1_; have HB := n2_; clear n0_ n1_ n2_; (try clear hb); (try clear hb2); (try clear hk); (try clear hi); (try clear ho0)))
      go_meet
      case rel => exact ⟨_, (t437), H', ⟨by have := HK1.out; first | omega | exact Nat.le_refl _⟩, ⟨by (with_reducible repeat (first | apply Kd.S_alloc | apply Kd.S_drewN | apply Kd.S_drew)); exact Kd.S_mono HO_7.out (fun _ hk => hk.2)⟩, ⟨by (with_reducible repeat (first | apply Kd.R_alloc | apply Kd.R_drewN | apply Kd.R_drew)); exact HO439.out⟩, ⟨by repeat (first | (with_reducible first | exact HB.out | apply below_alloc | apply pw_below_drewN | apply below_drew1) | exact HB.out)⟩⟩
    case rest =>
     clear HC5
     try clear c2
     try clear p2
     try clear c3
     try clear c4
     try clear c4b0
     try clear p4
     try clear q4
     try clear hx4
     try clear c6
     try clear c6b0
     try clear c7
     try clear c7b0
     try clear hx433_0
     try clear p2
     try clear p433
     try clear q433
     obtain ⟨kq, x9_4, HA, HJ4, HO_7, HO_9, HB⟩ := hcut
     cases kq with
     | zero => exact absurd HA.out (by simp [turndownlaw07_served.j1])
     | succ kj4 =>
      have H := HA.out
      clear HA
      simp only [turndownlaw07_served.j1] at H
      have H' := Aside0.mk H
      clear H
      go_wp2
      go_loopg [10, 11] kj4 (fun kq v10 v11 w' => ∃ (x10_3 : Bool) (x11_3 : Int), v10 = .bool x10_3 ∧ v11 = .int .i64 x11_3 ∧ Aside0 (turndownlaw07_served.l1 kq l0 a1 l2 x7_1 x8_1 x9_4 x10_3 x11_3 = some r) ∧ Aside0 (kq ≤ kj4) ∧ Aside0 (Kd.S (Kd.slice 3 (Kd.int .i64)) 22 w' w.heap.size (fun k_ => some k_ ≠ (u9 : Value).ownBlock) u7 x7_1) ∧ Aside0 (Kd.R (Kd.int .i64) 3 w' w.heap.size (fun _ => True) u9 x9_4) ∧ Aside0 (Below w.heap.size w w'))
      case atStart => exact ⟨(false), (0), (by first | rfl | (simp; done) | (simp [*]; done)), (by first | rfl | (simp; done) | (simp [*]; done)), H', ⟨Nat.le_refl _⟩, ⟨by (with_reducible repeat (first | apply Kd.S_alloc | apply Kd.S_drewN | apply Kd.S_drew)); exact HO_7.out⟩, ⟨by (with_reducible repeat (first | apply Kd.R_alloc | apply Kd.R_drewN | apply Kd.R_drew)); exact HO_9.out⟩, ⟨by repeat (first | (with_reducible first | exact HB.out | apply below_alloc | apply pw_below_drewN | apply below_drew1) | exact HB.out)⟩⟩
      case round =>
       clear H'
       try clear c2
       try clear p2
       try clear c3
       try clear c4
       try clear c4b0
       try clear p4
       try clear q4
       try clear hx4
       try clear c6
       try clear c6b0
       try clear c7
       try clear c7b0
       try clear hx433_0
       try clear p2
       try clear p4
       try clear p433
       try clear q4
       try clear q433
       obtain ⟨x10_3, x11_3, rfl, rfl, HA, HK3, HO_7, HO_9, HB⟩ := hrel
       cases gk with
       | zero => exact absurd HA.out (by simp [turndownlaw07_served.l1])
       | succ k3 =>
        have H := HA.out
        clear HA
        simp only [turndownlaw07_served.l1] at H
        by_cases c12 : x11_3 < a1
        ·
         rw [if_pos c12] at H
         have c12b0 : decide (x11_3 < a1) = true := decide_eq_true c12
         clear c12
         by_cases c13 : x10_3 = true
         ·
          subst c13
          have H1 : (turndownlaw07_served.l1 k3 l0 a1 l2 x7_1 x8_1 x9_4 true (wrap64 (x11_3 + 1))) = some r := by rw [if_pos rfl] at H; exact H
          clear H
          have H := H1
          clear H1
          have H' := Aside0.mk H
          clear H
          try go_wp2
          have n0_ := Aside0.mk (Kd.S_drew HO_7.out)
          have n1_ := Aside0.mk (Kd.R_drew HO_9.out)
          have n2_ := Aside0.mk (below_drew1 HB.out)
          clear HO_7
          clear HO_9
          clear HB
          have HO_7 := n0_
          have HO_9 := n1_
          have HB := n2_
          clear n0_ n1_ n2_
          refine start_ (n := 13) (S := fun w' => True) (ds := []) #[false, false, false, false, false, false, false, false, false, false, false, false, false] (by kernel_rfl) rfl rfl trivial (fun hHeld => ?_); refine with_tabW turndownlaw07_served.tab13 turndownlaw07_served.bits13 (fun HT_ HW_ => ?_)
          generalize wr.drew = w14 at HO_7 HO_9 HB hHeld ⊢
          refine pure_ (i := 0) (N := some 35) (v := ?_) (a' := ?_) #[true, false, false, false, false, false, false, false, false, false, false, false, false] rfl rfl (any_of HT_.out (by kernel_rfl)) (fun _ _ _ h => h) (Or.inl ⟨by rfl, ?_⟩) ?_ ?_
          rotate_left
          ·
           intro w'
           go_simp
           with_reducible rfl
          rotate_left
          ·
           simp only [Act.put, List.setIfInBounds_toArray, List.set_cons_zero, List.set_cons_succ, i64_w, i32_w]
           rfl
          refine pure_ (i := 1) (N := some 36) (v := ?_) (a' := ?_) #[true, true, false, false, false, false, false, false, false, false, false, false, false] rfl rfl (any_of HT_.out (by kernel_rfl)) (fun _ _ _ h => h) (Or.inl ⟨by rfl, ?_⟩) ?_ ?_
          rotate_left
          ·
           intro w'
           go_simp
           with_reducible rfl
          rotate_left
          ·
           simp only [Act.put, List.setIfInBounds_toArray, List.set_cons_zero, List.set_cons_succ, i64_w, i32_w]
           rfl
          refine pure_ (i := 2) (N := some 37) (v := undef) (a' := ?_) #[true, true, true, false, false, false, false, false, false, false, false, false, false] rfl rfl (any_of HT_.out (by kernel_rfl)) (fun _ _ _ h => h) (Or.inr ⟨by rfl, rfl⟩) ?_ ?_
          rotate_left
          ·
           simp only [Act.put, List.setIfInBounds_toArray, List.set_cons_zero, List.set_cons_succ, i64_w, i32_w]
           rfl
          refine pure_ (i := 3) (N := some 38) (v := undef) (a' := ?_) #[true, true, true, true, false, false, false, false, false, false, false, false, false] rfl rfl (any_of HT_.out (by kernel_rfl)) (fun _ _ _ h => h) (Or.inr ⟨by rfl, rfl⟩) ?_ ?_
          rotate_left
          ·
           simp only [Act.put, List.setIfInBounds_toArray, List.set_cons_zero, List.set_cons_succ, i64_w, i32_w]
           rfl
          refine pure_ (i := 4) (N := some 39) (v := undef) (a' := ?_) #[true, true, true, true, true, false, false, false, false, false, false, false, false] rfl rfl (any_of HT_.out (by kernel_rfl)) (fun _ _ _ h => h) (Or.inr ⟨by rfl, rfl⟩) ?_ ?_
          rotate_left
          ·
           simp only [Act.put, List.setIfInBounds_toArray, List.set_cons_zero, List.set_cons_succ, i64_w, i32_w]
           rfl
          refine pure_ (i := 5) (N := some 40) (v := undef) (a' := ?_) #[true, true, true, true, true, true, false, false, false, false, false, false, false] rfl rfl (any_of HT_.out (by kernel_rfl)) (fun _ _ _ h => h) (Or.inr ⟨by rfl, rfl⟩) ?_ ?_
          rotate_left
          ·
           simp only [Act.put, List.setIfInBounds_toArray, List.set_cons_zero, List.set_cons_succ, i64_w, i32_w]
           rfl
          refine pure_ (i := 6) (N := some 41) (v := undef) (a' := ?_) #[true, true, true, true, true, true, true, false, false, false, false, false, false] rfl rfl (any_of HT_.out (by kernel_rfl)) (fun _ _ _ h => h) (Or.inr ⟨by rfl, rfl⟩) ?_ ?_
          rotate_left
          ·
           simp only [Act.put, List.setIfInBounds_toArray, List.set_cons_zero, List.set_cons_succ, i64_w, i32_w]
           rfl
          refine pure_ (i := 7) (N := some 42) (v := undef) (a' := ?_) #[true, true, true, true, true, true, true, true, false, false, false, false, false] rfl rfl (any_of HT_.out (by kernel_rfl)) (fun _ _ _ h => h) (Or.inr ⟨by rfl, rfl⟩) ?_ ?_
          rotate_left
          ·
           simp only [Act.put, List.setIfInBounds_toArray, List.set_cons_zero, List.set_cons_succ, i64_w, i32_w]
           rfl
          refine pure_ (i := 8) (N := some 43) (v := undef) (a' := ?_) #[true, true, true, true, true, true, true, true, true, false, false, false, false] rfl rfl (any_of HT_.out (by kernel_rfl)) (fun _ _ _ h => h) (Or.inr ⟨by rfl, rfl⟩) ?_ ?_
          rotate_left
          ·
           simp only [Act.put, List.setIfInBounds_toArray, List.set_cons_zero, List.set_cons_succ, i64_w, i32_w]
           rfl
          refine pure_ (i := 9) (N := some 44) (v := undef) (a' := ?_) #[true, true, true, true, true, true, true, true, true, true, false, false, false] rfl rfl (any_of HT_.out (by kernel_rfl)) (fun _ _ _ h => h) (Or.inr ⟨by rfl, rfl⟩) ?_ ?_
          rotate_left
          ·
           simp only [Act.put, List.setIfInBounds_toArray, List.set_cons_zero, List.set_cons_succ, i64_w, i32_w]
           rfl
          refine pure_ (i := 10) (N := some 45) (v := undef) (a' := ?_) #[true, true, true, true, true, true, true, true, true, true, true, false, false] rfl rfl (any_of HT_.out (by kernel_rfl)) (fun _ _ _ h => h) (Or.inr ⟨by rfl, rfl⟩) ?_ ?_
          rotate_left
          ·
           simp only [Act.put, List.setIfInBounds_toArray, List.set_cons_zero, List.set_cons_succ, i64_w, i32_w]
           rfl
          refine pure_ (i := 11) (N := some 46) (v := ?_) (a' := ?_) #[true, true, true, true, true, true, true, true, true, true, true, true, false] rfl rfl (any_of HT_.out (by kernel_rfl)) (fun _ _ _ h => h) (Or.inl ⟨by rfl, ?_⟩) ?_ ?_
          rotate_left
          ·
           intro w'
           go_simp
           with_reducible rfl
          rotate_left
          ·
           simp only [Act.put, List.setIfInBounds_toArray, List.set_cons_zero, List.set_cons_succ, i64_w, i32_w]
           rfl
          refine pure_ (i := 12) (N := some 10) (v := ?_) (a' := ?_) #[true, true, true, true, true, true, true, true, true, true, true, true, true] rfl rfl (any_of HT_.out (by kernel_rfl)) (fun _ _ _ h => h) (Or.inl ⟨by rfl, ?_⟩) ?_ ?_
          rotate_left
          ·
           intro w'
           go_simp
           with_reducible rfl
          rotate_left
          ·
           simp only [Act.put, List.setIfInBounds_toArray, List.set_cons_zero, List.set_cons_succ, i64_w, i32_w]
           rfl
          refine done_ (done_of HT_.out (by kernel_rfl)) ?_
          try go_wp2
          go_roundg k3
          case measure => have := HK1.out; have := HJ4.out; have := HK3.out; omega
          case rel => exact ⟨(true), (wrap64 (x11_3 + 1)), (by first | rfl | (simp; done) | (simp [*]; done)), (by first | rfl | (simp; done) | (simp [*]; done)), H', ⟨by have := HK1.out; have := HJ4.out; have := HK3.out; omega⟩, ⟨by (with_reducible repeat (first | apply Kd.S_alloc | apply Kd.S_drewN | apply Kd.S_drew)); exact HO_7.out⟩, ⟨by (with_reducible repeat (first | apply Kd.R_alloc | apply Kd.R_drewN | apply Kd.R_drew)); exact HO_9.out⟩, ⟨by repeat (first | (with_reducible first | exact HB.out | apply below_alloc | apply pw_below_drewN | apply below_drew1) | exact HB.out)⟩⟩
         ·
          replace c13 := Bool.eq_false_iff.mpr c13
          subst c13
          have H1 : (if 0 ≤ x11_3 then (if x11_3 < (x9_4.length : Int) then (if 0 ≤ x8_1 then (if x8_1 < (l2.length : Int) then (turndownlaw07_served.l1 k3 l0 a1 l2 x7_1 x8_1 x9_4 ((rd x9_4 x11_3) == (rd l2 x8_1)) (wrap64 (x11_3 + 1))) else (none)) else (none)) else (none)) else (none)) = some r := by rw [if_neg (show ¬ (false = true) by decide)] at H; exact H
          clear H
          have H := H1
          clear H1
          by_cases c15 : 0 ≤ x11_3
          ·
           rw [if_pos c15] at H
           have c15b0 : decide (0 ≤ x11_3) = true := decide_eq_true c15
           clear c15
           by_cases c16 : x11_3 < (x9_4.length : Int)
           ·
            rw [if_pos c16] at H
            have c16b0 : decide (x11_3 < (x9_4.length : Int)) = true := decide_eq_true c16
            clear c16
            by_cases c17 : 0 ≤ x8_1
            ·
             rw [if_pos c17] at H
             have c17b0 : decide (0 ≤ x8_1) = true := decide_eq_true c17
             clear c17
             by_cases c18 : x8_1 < (l2.length : Int)
             ·
              rw [if_pos c18] at H
              have c18b0 : decide (x8_1 < (l2.length : Int)) = true := decide_eq_true c18
              clear c18
              have H' := Aside0.mk H
              clear H
              try go_wp2
              have n0_ := Aside0.mk (Kd.S_drew HO_7.out)
              have n1_ := Aside0.mk (Kd.R_drew HO_9.out)
              have n2_ := Aside0.mk (below_drew1 HB.out)
              clear HO_7
              clear HO_9
              clear HB
              have HO_7 := n0_
              have HO_9 := n1_
              have HB := n2_
              clear n0_ n1_ n2_
              obtain ⟨Ao20, co20, eo20⟩ := Kd.R_slice HO_9.out
              (first | subst eo20 | (injection eo20 with f1_ f2_ f3_; have f4_ := f1_.symm; have f5_ := f3_.symm; clear f1_ f2_ f3_; subst f4_; subst f5_))
              have p440 : 0 ≤ (x11_3 : Int) := of_decide_eq_true (by first | (with_reducible assumption) | assumption)
              have q440 : x11_3 < (x9_4.length : Int) := of_decide_eq_true (by first | (with_reducible assumption) | assumption)
              obtain ⟨ad440, e440, hx440_0⟩ := Kd.at_int (Kd.R_reads' HO_9.out).2.2 x11_3 p440 q440
              cases e440
              replace p440 := eq_true p440
              replace q440 := eq_true q440
              have p441 : 0 ≤ (x8_1 : Int) := of_decide_eq_true (by first | (with_reducible assumption) | assumption)
              have q441 : x8_1 < (l2.length : Int) := of_decide_eq_true (by first | (with_reducible assumption) | assumption)
              obtain ⟨ad441, e441, hx441_0⟩ := Kd.at_int HR2.out x8_1 p441 q441
              have hw441_0 := hx441_0
              cases e441
              replace hx441_0 := (HB.out.cell (World.block_lt_of_cell? w _ hx441_0)).trans hx441_0
              replace p441 := eq_true p441
              replace q441 := eq_true q441
              refine start_ (n := 13) (S := fun w' => w'.cell? (ad440.add (x11_3).toNat) = some (.int .i64 (rd x9_4 x11_3)) ∧ w'.cell? (ad441.add (x8_1).toNat) = some (.int .i64 (rd l2 x8_1))) (ds := []) #[false, false, false, false, false, false, false, false, false, false, false, false, false] (by kernel_rfl) rfl rfl ⟨hx440_0, ((HB.out.cell (World.block_lt_of_cell? w _ hw441_0)).trans hw441_0)⟩ (fun hHeld => ?_); refine with_tabW turndownlaw07_served.tab13 turndownlaw07_served.bits13 (fun HT_ HW_ => ?_)
              generalize wr.drew = w19 at HO_7 HO_9 HB hx440_0 hx441_0 hHeld ⊢
              refine pure_ (i := 0) (N := some 35) (v := ?_) (a' := ?_) #[true, false, false, false, false, false, false, false, false, false, false, false, false] rfl rfl (any_of HT_.out (by kernel_rfl)) (fun _ _ _ h => h) (Or.inl ⟨by rfl, ?_⟩) ?_ ?_
              rotate_left
              ·
               intro w'
               go_simp
               with_reducible rfl
              rotate_left
              ·
               simp only [Act.put, List.setIfInBounds_toArray, List.set_cons_zero, List.set_cons_succ, i64_w, i32_w]
               rfl
              refine pure_ (i := 1) (N := some 36) (v := ?_) (a' := ?_) #[true, true, false, false, false, false, false, false, false, false, false, false, false] rfl rfl (any_of HT_.out (by kernel_rfl)) (fun _ _ _ h => h) (Or.inl ⟨by rfl, ?_⟩) ?_ ?_
              rotate_left
              ·
               intro w'
               go_simp
               with_reducible rfl
              rotate_left
              ·
               simp only [Act.put, List.setIfInBounds_toArray, List.set_cons_zero, List.set_cons_succ, i64_w, i32_w]
               rfl
              refine pure_ (i := 2) (N := some 37) (v := ?_) (a' := ?_) #[true, true, true, false, false, false, false, false, false, false, false, false, false] rfl rfl (any_of HT_.out (by kernel_rfl)) (fun _ _ _ h => h) (Or.inl ⟨by rfl, ?_⟩) ?_ ?_
              rotate_left
              ·
               intro w'
               go_simp
               with_reducible rfl
              rotate_left
              ·
               simp only [Act.put, List.setIfInBounds_toArray, List.set_cons_zero, List.set_cons_succ, i64_w, i32_w]
               rfl
              refine pure_ (i := 3) (N := some 38) (v := ?_) (a' := ?_) #[true, true, true, true, false, false, false, false, false, false, false, false, false] rfl rfl (any_of HT_.out (by kernel_rfl)) (fun _ _ _ h => h) (Or.inl ⟨by rfl, ?_⟩) ?_ ?_
              rotate_left
              ·
               intro w'
               go_simp
               with_reducible rfl
              rotate_left
              ·
               simp only [Act.put, List.setIfInBounds_toArray, List.set_cons_zero, List.set_cons_succ, i64_w, i32_w]
               rfl
              refine pure_ (i := 4) (N := some 39) (v := ?_) (a' := ?_) #[true, true, true, true, true, false, false, false, false, false, false, false, false] rfl rfl (any_of HT_.out (by kernel_rfl)) (fun _ _ _ h => h) (Or.inl ⟨by rfl, ?_⟩) ?_ ?_
              rotate_left
              ·
               intro w'
               go_simp
               with_reducible rfl
              rotate_left
              ·
               simp only [Act.put, List.setIfInBounds_toArray, List.set_cons_zero, List.set_cons_succ, i64_w, i32_w]
               rfl
              refine pure_ (i := 6) (N := some 41) (v := ?_) (a' := ?_) #[true, true, true, true, true, false, true, false, false, false, false, false, false] rfl rfl (any_of HT_.out (by kernel_rfl)) (fun _ _ _ h => h) (Or.inl ⟨by rfl, ?_⟩) ?_ ?_
              rotate_left
              ·
               intro w'
               go_simp
               with_reducible rfl
              rotate_left
              ·
               simp only [Act.put, List.setIfInBounds_toArray, List.set_cons_zero, List.set_cons_succ, i64_w, i32_w]
               rfl
              refine pure_ (i := 7) (N := some 42) (v := ?_) (a' := ?_) #[true, true, true, true, true, false, true, true, false, false, false, false, false] rfl rfl (any_of HT_.out (by kernel_rfl)) (fun _ _ _ h => h) (Or.inl ⟨by rfl, ?_⟩) ?_ ?_
              rotate_left
              ·
               intro w'
               go_simp
               with_reducible rfl
              rotate_left
              ·
               simp only [Act.put, List.setIfInBounds_toArray, List.set_cons_zero, List.set_cons_succ, i64_w, i32_w]
               rfl
              refine pure_ (i := 8) (N := some 43) (v := ?_) (a' := ?_) #[true, true, true, true, true, false, true, true, true, false, false, false, false] rfl rfl (any_of HT_.out (by kernel_rfl)) (fun _ _ _ h => h) (Or.inl ⟨by rfl, ?_⟩) ?_ ?_
              rotate_left
              ·
               intro w'
               go_simp
               with_reducible rfl
              rotate_left
              ·
               simp only [Act.put, List.setIfInBounds_toArray, List.set_cons_zero, List.set_cons_succ, i64_w, i32_w]
               rfl
              refine take_ (i := 5) (N := some 40) (v := ?_) (a' := ?_) #[true, true, true, true, true, true, true, true, true, false, false, false, false] rfl rfl (take_ofW HT_.out HW_.out (by kernel_rfl)) (fun _ _ _ h => h) (Or.inl ⟨by rfl, ?_⟩) hHeld ?_ ?_
              rotate_left
              ·
               rintro w' ⟨s0, s1⟩
               go_simp
               with_reducible rfl
              rotate_left
              ·
               simp only [Act.put, List.setIfInBounds_toArray, List.set_cons_zero, List.set_cons_succ, i64_w, i32_w]
               rfl
              refine take_ (i := 9) (N := some 44) (v := ?_) (a' := ?_) #[true, true, true, true, true, true, true, true, true, true, false, false, false] rfl rfl (take_ofW HT_.out HW_.out (by kernel_rfl)) (fun _ _ _ h => h) (Or.inl ⟨by rfl, ?_⟩) hHeld ?_ ?_
              rotate_left
              ·
               rintro w' ⟨s0, s1⟩
               go_simp
               with_reducible rfl
              rotate_left
              ·
               simp only [Act.put, List.setIfInBounds_toArray, List.set_cons_zero, List.set_cons_succ, i64_w, i32_w]
               rfl
              refine pure_ (i := 10) (N := some 45) (v := ?_) (a' := ?_) #[true, true, true, true, true, true, true, true, true, true, true, false, false] rfl rfl (any_of HT_.out (by kernel_rfl)) (fun _ _ _ h => h) (Or.inl ⟨by rfl, ?_⟩) ?_ ?_
              rotate_left
              ·
               intro w'
               go_simp
               with_reducible rfl
              rotate_left
              ·
               simp only [Act.put, List.setIfInBounds_toArray, List.set_cons_zero, List.set_cons_succ, i64_w, i32_w]
               rfl
              refine pure_ (i := 11) (N := some 46) (v := ?_) (a' := ?_) #[true, true, true, true, true, true, true, true, true, true, true, true, false] rfl rfl (any_of HT_.out (by kernel_rfl)) (fun _ _ _ h => h) (Or.inl ⟨by rfl, ?_⟩) ?_ ?_
              rotate_left
              ·
               intro w'
               go_simp
               with_reducible rfl
              rotate_left
              ·
               simp only [Act.put, List.setIfInBounds_toArray, List.set_cons_zero, List.set_cons_succ, i64_w, i32_w]
               rfl
              refine pure_ (i := 12) (N := some 10) (v := ?_) (a' := ?_) #[true, true, true, true, true, true, true, true, true, true, true, true, true] rfl rfl (any_of HT_.out (by kernel_rfl)) (fun _ _ _ h => h) (Or.inl ⟨by rfl, ?_⟩) ?_ ?_
              rotate_left
              ·
               intro w'
               go_simp
               with_reducible rfl
              rotate_left
              ·
               simp only [Act.put, List.setIfInBounds_toArray, List.set_cons_zero, List.set_cons_succ, i64_w, i32_w]
               rfl
              refine done_ (done_of HT_.out (by kernel_rfl)) ?_
              try go_wp2
              go_roundg k3
              case measure => have := HK1.out; have := HJ4.out; have := HK3.out; omega
              case rel => exact ⟨(((rd x9_4 x11_3) == (rd l2 x8_1))), (wrap64 (x11_3 + 1)), (by first | rfl | (simp; done) | (simp [*]; done)), (by first | rfl | (simp; done) | (simp [*]; done)), H', ⟨by have := HK1.out; have := HJ4.out; have := HK3.out; omega⟩, ⟨by (with_reducible repeat (first | apply Kd.S_alloc | apply Kd.S_drewN | apply Kd.S_drew)); exact HO_7.out⟩, ⟨by (with_reducible repeat (first | apply Kd.R_alloc | apply Kd.R_drewN | apply Kd.R_drew)); exact HO_9.out⟩, ⟨by repeat (first | (with_reducible first | exact HB.out | apply below_alloc | apply pw_below_drewN | apply below_drew1) | exact HB.out)⟩⟩
             ·
              rw [if_neg c18] at H
              exact absurd H (by simp)
            ·
             rw [if_neg c17] at H
             exact absurd H (by simp)
           ·
            rw [if_neg c16] at H
            exact absurd H (by simp)
          ·
           rw [if_neg c15] at H
           exact absurd H (by simp)
        ·
         rw [if_neg c12] at H
         have c12b0 : decide (x11_3 < a1) = false := decide_eq_false c12
         clear c12
         by_cases c21 : x10_3 = true
         ·
          subst c21
          have H1 : (if x7_1.length < 5864062014805 then (turndownlaw07_served.l0 k3 l0 a1 l2 (x7_1 ++ [x9_4]) (wrap64 (x8_1 + 1))) else (none)) = some r := by rw [if_pos rfl] at H; exact H
          clear H
          have H := H1
          clear H1
          by_cases c22 : x7_1.length < 5864062014805
          ·
           rw [if_pos c22] at H
           have LMc22 := Aside0.mk c22
           clear c22
           obtain ⟨y442, hy442⟩ : ∃ y_ : List (List Int), y_ = (x7_1 ++ [x9_4]) := ⟨_, rfl⟩
           replace H : (turndownlaw07_served.l0 k3 l0 a1 l2 y442 (wrap64 (x8_1 + 1))) = some r := by first | (rw [hy442]; with_reducible exact H) | (have H2_ := (Option.bind_some _ _).symm.trans H; rw [hy442]; with_reducible exact H2_) | (have H2_ := (Option.bind_some _ _).symm.trans H; with_reducible exact H2_) | with_reducible exact H | (rw [hy442]; exact H) | exact H
           have Ny442 := Aside0.mk hy442
           clear hy442
           have H' := Aside0.mk H
           clear H
           obtain ⟨Ao24, co24, eo24⟩ := Kd.R_slice HO_9.out
           subst eo24
           go_wp2_with (first | ((with_reducible refine gate_builtin (b := .append) (xs := #[.tmp 64, .tmp 66]) rfl ?_); at_builtin; refine Kd.S_append (Kd.slice 3 (Kd.int .i64)) (w0 := w) w.heap.size rfl (.tmp 64) (.tmp 66) 23 22 (.slice none 0 0) 24 rfl Try.underlying23 info22 rfl (by decide) (by omega) u7 x7_1 x9_4 [.slice Ao24 x9_4.length co24] (fun _ => True) (fun k_ => some k_ = (.slice Ao24 x9_4.length co24 : Value).ownBlock) rfl rfl ?aP (fun k_ hk_ => ((Kd.R_mono (ok' := fun k_ => ((fun _ => True)) k_ ∧ some k_ ≠ (u7 : Value).ownBlock) (Kd.R_apart' (HO_9.out) (Kd.S_typed HO_7.out) (by decide)) (fun k_ hk => ⟨trivial, hk.2⟩))).1 k_ hk_.symm) ?aF ?aO ?aB ?aS ?aL ?_; (case aP => exact Kd.M_row (Kd.R_mono (Kd.R_tight rfl (Kd.R_mono (ok' := fun k_ => ((fun _ => True)) k_ ∧ some k_ ≠ (u7 : Value).ownBlock) (Kd.R_apart' (HO_9.out) (Kd.S_typed HO_7.out) (by decide)) (fun k_ hk => ⟨trivial, hk.2⟩))) (fun _ h_ => h_))); (case aB => exact (by repeat (first | (with_reducible first | exact HB.out | apply below_alloc | apply pw_below_drewN | apply below_drew1) | exact HB.out))); (case aF => exact (fun _ _ => trivial)); (case aO => exact (by (with_reducible repeat (first | apply Kd.S_alloc | apply Kd.S_drewN | apply Kd.S_drew)); exact Kd.S_mono HO_7.out (fun k_ hk => ⟨trivial, fun e_ => hk e_⟩))); (case aS => exact (below_size (by repeat (first | (with_reducible first | exact HB.out | apply below_alloc | apply pw_below_drewN | apply below_drew1) | exact HB.out)))); (case aL => have := LMc22.out; omega); intro v443 w23 ho hb hg hat; rw [← Ny442.out] at ho; have n0_ := Aside0.mk (hb); have n1_ := Aside0.mk (ho); clear HB; clear HO_7; clear HO_9; have HB := n0_; have HO444 := n1_; clear n0_ n1_; clear ho hb hg hat))
           go_roundg k3
           case measure => have := HK1.out; have := HJ4.out; have := HK3.out; omega
           case rel => exact ⟨(y442), (wrap64 (x8_1 + 1)), (by first | rfl | (simp; done) | (simp [*]; done)), H', ⟨by have := HK1.out; have := HJ4.out; have := HK3.out; omega⟩, ⟨by (with_reducible repeat (first | apply Kd.S_alloc | apply Kd.S_drewN | apply Kd.S_drew)); exact HO444.out⟩, ⟨by repeat (first | (with_reducible first | exact HB.out | apply below_alloc | apply pw_below_drewN | apply below_drew1) | exact HB.out)⟩⟩
          ·
           rw [if_neg c22] at H
           exact absurd H (by simp)
         ·
          replace c21 := Bool.eq_false_iff.mpr c21
          subst c21
          have H1 : (if 0 ≤ x8_1 then (if x8_1 < (l2.length : Int) then ((turndownlaw07_mod.f (rd l2 x8_1) a1).bind fun t446 => (if 0 ≤ t446 then (if t446 < (x9_4.length : Int) then ((turndownlaw07_tame.f k3 (x9_4.set (t446 : Int).toNat (rd l2 x8_1)) a1).bind fun t449 => (if x7_1.length < 5864062014805 then (turndownlaw07_served.l0 k3 l0 a1 l2 (x7_1 ++ [t449]) (wrap64 (x8_1 + 1))) else (none))) else (none)) else (none))) else (none)) else (none)) = some r := by rw [if_neg (show ¬ (false = true) by decide)] at H; exact H
          clear H
          have H := H1
          clear H1
          by_cases c25 : 0 ≤ x8_1
          ·
           rw [if_pos c25] at H
           have c25b0 : decide (0 ≤ x8_1) = true := decide_eq_true c25
           clear c25
           by_cases c26 : x8_1 < (l2.length : Int)
           ·
            rw [if_pos c26] at H
            have c26b0 : decide (x8_1 < (l2.length : Int)) = true := decide_eq_true c26
            clear c26
            replace H := Option.bind_eq_some_iff.mp H
            obtain ⟨t446, A270, H⟩ := H
            replace H : (if 0 ≤ t446 then (if t446 < (x9_4.length : Int) then ((turndownlaw07_tame.f k3 (x9_4.set (t446 : Int).toNat (rd l2 x8_1)) a1).bind fun t449 => (if x7_1.length < 5864062014805 then (turndownlaw07_served.l0 k3 l0 a1 l2 (x7_1 ++ [t449]) (wrap64 (x8_1 + 1))) else (none))) else (none)) else (none)) = some r := H
            have A27 := Aside0.mk A270
            clear A270
            by_cases c28 : 0 ≤ t446
            ·
             rw [if_pos c28] at H
             have c28b0 : decide (0 ≤ t446) = true := decide_eq_true c28
             clear c28
             by_cases c29 : t446 < (x9_4.length : Int)
             ·
              rw [if_pos c29] at H
              have c29b0 : decide (t446 < (x9_4.length : Int)) = true := decide_eq_true c29
              clear c29
              obtain ⟨y448, hy448⟩ : ∃ y_ : List Int, y_ = (x9_4.set (t446 : Int).toNat (rd l2 x8_1)) := ⟨_, rfl⟩
              replace H : ((turndownlaw07_tame.f k3 y448 a1).bind fun t449 => (if x7_1.length < 5864062014805 then (turndownlaw07_served.l0 k3 l0 a1 l2 (x7_1 ++ [t449]) (wrap64 (x8_1 + 1))) else (none))) = some r := by first | (rw [hy448]; with_reducible exact H) | (have H2_ := (Option.bind_some _ _).symm.trans H; rw [hy448]; with_reducible exact H2_) | (have H2_ := (Option.bind_some _ _).symm.trans H; with_reducible exact H2_) | with_reducible exact H | (rw [hy448]; exact H) | exact H
              have Ny448 := Aside0.mk hy448
              clear hy448
              replace H := Option.bind_eq_some_iff.mp H
              obtain ⟨t449, A310, H⟩ := H
              replace H : (if x7_1.length < 5864062014805 then (turndownlaw07_served.l0 k3 l0 a1 l2 (x7_1 ++ [t449]) (wrap64 (x8_1 + 1))) else (none)) = some r := H
              have A31 := Aside0.mk A310
              clear A310
              by_cases c32 : x7_1.length < 5864062014805
              ·
               rw [if_pos c32] at H
               have LMc32 := Aside0.mk c32
               clear c32
               obtain ⟨y452, hy452⟩ : ∃ y_ : List (List Int), y_ = (x7_1 ++ [t449]) := ⟨_, rfl⟩
               replace H : (turndownlaw07_served.l0 k3 l0 a1 l2 y452 (wrap64 (x8_1 + 1))) = some r := by first | (rw [hy452]; with_reducible exact H) | (have H2_ := (Option.bind_some _ _).symm.trans H; rw [hy452]; with_reducible exact H2_) | (have H2_ := (Option.bind_some _ _).symm.trans H; with_reducible exact H2_) | with_reducible exact H | (rw [hy452]; exact H) | exact H
               have Ny452 := Aside0.mk hy452
               clear hy452
               have H' := Aside0.mk H
               clear H
               try go_wp2
               have n0_ := Aside0.mk (Kd.S_drew HO_7.out)
               have n1_ := Aside0.mk (Kd.R_drew HO_9.out)
               have n2_ := Aside0.mk (below_drew1 HB.out)
               clear HO_7
               clear HO_9
               clear HB
               have HO_7 := n0_
               have HO_9 := n1_
               have HB := n2_
               clear n0_ n1_ n2_
               have p445 : 0 ≤ (x8_1 : Int) := of_decide_eq_true (by first | (with_reducible assumption) | assumption)
               have q445 : x8_1 < (l2.length : Int) := of_decide_eq_true (by first | (with_reducible assumption) | assumption)
               obtain ⟨ad445, e445, hx445_0⟩ := Kd.at_int HR2.out x8_1 p445 q445
               have hw445_0 := hx445_0
               cases e445
               replace hx445_0 := (HB.out.cell (World.block_lt_of_cell? w _ hx445_0)).trans hx445_0
               replace p445 := eq_true p445
               replace q445 := eq_true q445
               have p447 : 0 ≤ (x8_1 : Int) := of_decide_eq_true (by first | (with_reducible assumption) | assumption)
               have q447 : x8_1 < (l2.length : Int) := of_decide_eq_true (by first | (with_reducible assumption) | assumption)
               obtain ⟨ad447, e447, hx447_0⟩ := Kd.at_int HR2.out x8_1 p447 q447
               have hw447_0 := hx447_0
               obtain rfl : ad445 = ad447 := (by injection e447)
               replace hx447_0 := (HB.out.cell (World.block_lt_of_cell? w _ hx447_0)).trans hx447_0
               replace p447 := eq_true p447
               replace q447 := eq_true q447
               refine start_ (n := 13) (S := fun w' => w'.cell? (ad445.add (x8_1).toNat) = some (.int .i64 (rd l2 x8_1)) ∧ w'.cell? (ad445.add (x8_1).toNat) = some (.int .i64 (rd l2 x8_1))) (ds := [12]) #[false, false, false, false, false, false, false, false, false, false, false, false, false] (by kernel_rfl) rfl rfl ⟨((HB.out.cell (World.block_lt_of_cell? w _ hw445_0)).trans hw445_0), ((HB.out.cell (World.block_lt_of_cell? w _ hw447_0)).trans hw447_0)⟩ (fun hHeld => ?_); refine with_tabW turndownlaw07_served.tab15 turndownlaw07_served.bits15 (fun HT_ HW_ => ?_)
               generalize wr.drew = w33 at HO_7 HO_9 HB hx445_0 hx447_0 hHeld ⊢
               refine pure_ (i := 0) (N := some 49) (v := ?_) (a' := ?_) #[true, false, false, false, false, false, false, false, false, false, false, false, false] rfl rfl (any_of HT_.out (by kernel_rfl)) (fun _ _ _ h => h) (Or.inl ⟨by rfl, ?_⟩) ?_ ?_
               rotate_left
               ·
                intro w'
                go_simp
                with_reducible rfl
               rotate_left
               ·
                simp only [Act.put, List.setIfInBounds_toArray, List.set_cons_zero, List.set_cons_succ, i64_w, i32_w]
                rfl
               refine pure_ (i := 1) (N := some 50) (v := ?_) (a' := ?_) #[true, true, false, false, false, false, false, false, false, false, false, false, false] rfl rfl (any_of HT_.out (by kernel_rfl)) (fun _ _ _ h => h) (Or.inl ⟨by rfl, ?_⟩) ?_ ?_
               rotate_left
               ·
                intro w'
                go_simp
                with_reducible rfl
               rotate_left
               ·
                simp only [Act.put, List.setIfInBounds_toArray, List.set_cons_zero, List.set_cons_succ, i64_w, i32_w]
                rfl
               refine pure_ (i := 2) (N := some 51) (v := ?_) (a' := ?_) #[true, true, true, false, false, false, false, false, false, false, false, false, false] rfl rfl (any_of HT_.out (by kernel_rfl)) (fun _ _ _ h => h) (Or.inl ⟨by rfl, ?_⟩) ?_ ?_
               rotate_left
               ·
                intro w'
                go_simp
                with_reducible rfl
               rotate_left
               ·
                simp only [Act.put, List.setIfInBounds_toArray, List.set_cons_zero, List.set_cons_succ, i64_w, i32_w]
                rfl
               refine pure_ (i := 3) (N := some 52) (v := ?_) (a' := ?_) #[true, true, true, true, false, false, false, false, false, false, false, false, false] rfl rfl (any_of HT_.out (by kernel_rfl)) (fun _ _ _ h => h) (Or.inl ⟨by rfl, ?_⟩) ?_ ?_
               rotate_left
               ·
                intro w'
                go_simp
                with_reducible rfl
               rotate_left
               ·
                simp only [Act.put, List.setIfInBounds_toArray, List.set_cons_zero, List.set_cons_succ, i64_w, i32_w]
                rfl
               refine pure_ (i := 5) (N := some 54) (v := ?_) (a' := ?_) #[true, true, true, true, false, true, false, false, false, false, false, false, false] rfl rfl (any_of HT_.out (by kernel_rfl)) (fun _ _ _ h => h) (Or.inl ⟨by rfl, ?_⟩) ?_ ?_
               rotate_left
               ·
                intro w'
                go_simp
                with_reducible rfl
               rotate_left
               ·
                simp only [Act.put, List.setIfInBounds_toArray, List.set_cons_zero, List.set_cons_succ, i64_w, i32_w]
                rfl
               refine pure_ (i := 7) (N := some 56) (v := ?_) (a' := ?_) #[true, true, true, true, false, true, false, true, false, false, false, false, false] rfl rfl (any_of HT_.out (by kernel_rfl)) (fun _ _ _ h => h) (Or.inl ⟨by rfl, ?_⟩) ?_ ?_
               rotate_left
               ·
                intro w'
                go_simp
                with_reducible rfl
               rotate_left
               ·
                simp only [Act.put, List.setIfInBounds_toArray, List.set_cons_zero, List.set_cons_succ, i64_w, i32_w]
                rfl
               refine pure_ (i := 8) (N := some 57) (v := ?_) (a' := ?_) #[true, true, true, true, false, true, false, true, true, false, false, false, false] rfl rfl (any_of HT_.out (by kernel_rfl)) (fun _ _ _ h => h) (Or.inl ⟨by rfl, ?_⟩) ?_ ?_
               rotate_left
               ·
                intro w'
                go_simp
                with_reducible rfl
               rotate_left
               ·
                simp only [Act.put, List.setIfInBounds_toArray, List.set_cons_zero, List.set_cons_succ, i64_w, i32_w]
                rfl
               refine pure_ (i := 9) (N := some 58) (v := ?_) (a' := ?_) #[true, true, true, true, false, true, false, true, true, true, false, false, false] rfl rfl (any_of HT_.out (by kernel_rfl)) (fun _ _ _ h => h) (Or.inl ⟨by rfl, ?_⟩) ?_ ?_
               rotate_left
               ·
                intro w'
                go_simp
                with_reducible rfl
               rotate_left
               ·
                simp only [Act.put, List.setIfInBounds_toArray, List.set_cons_zero, List.set_cons_succ, i64_w, i32_w]
                rfl
               refine take_ (i := 4) (N := some 53) (v := ?_) (a' := ?_) #[true, true, true, true, true, true, false, true, true, true, false, false, false] rfl rfl (take_ofW HT_.out HW_.out (by kernel_rfl)) (fun _ _ _ h => h) (Or.inl ⟨by rfl, ?_⟩) hHeld ?_ ?_
               rotate_left
               ·
                rintro w' ⟨s0, s1⟩
                go_simp
                with_reducible rfl
               rotate_left
               ·
                simp only [Act.put, List.setIfInBounds_toArray, List.set_cons_zero, List.set_cons_succ, i64_w, i32_w]
                rfl
               refine take_ (i := 10) (N := some 59) (v := ?_) (a' := ?_) #[true, true, true, true, true, true, false, true, true, true, true, false, false] rfl rfl (take_ofW HT_.out HW_.out (by kernel_rfl)) (fun _ _ _ h => h) (Or.inl ⟨by rfl, ?_⟩) hHeld ?_ ?_
               rotate_left
               ·
                rintro w' ⟨s0, s1⟩
                go_simp
                with_reducible rfl
               rotate_left
               ·
                simp only [Act.put, List.setIfInBounds_toArray, List.set_cons_zero, List.set_cons_succ, i64_w, i32_w]
                rfl
               refine one_ (i := 6) (N := some 55) #[true, true, true, true, true, true, true, true, true, true, true, false, false] rfl rfl (one_of HT_.out (by kernel_rfl)) (by decide) (fun K hK => ?_)
               refine goes_ Try.func36 (by kernel_rfl) rfl #[.int .i64 (rd l2 x8_1), .int .i64 a1] (by rfl) rfl rfl (by (try simp only [List.map_toArray, List.map_cons, List.map_nil]); first | done | rfl | (simp only [List.length_drop, List.length_take]; rfl)) ?_
               with_reducible refine (turndownlaw07_mod.calls (rd l2 x8_1) a1 t446 _ A27.out).mono ?_
               rintro e w' ⟨rfl, ⟨nd, rfl⟩⟩
               refine ⟨_, rfl, ?_⟩
               have p30 : 0 ≤ (t446 : Int) := of_decide_eq_true (by first | (with_reducible assumption) | assumption)
               have q30 : (t446 : Int) < ((x9_4.length : Int) : Int) := of_decide_eq_true (by first | (with_reducible assumption) | assumption)
               obtain ⟨go30, co30, eo30, gb30, gl30, cl30, HG30⟩ := Kd.R_form HO_9.out (by omega)
               (first | cases eo30 | (injection eo30 with ea_ en_ ec_; (first | subst ea_ | (injection ea_ with ea_; subst ea_)); subst ec_; clear en_))
               have GB30 := Aside0.mk gb30
               have GG30 := Aside0.mk HG30
               clear gb30 gl30 HG30
               obtain ⟨hx30_0, hf30_0⟩ := Kd.R_celln 0 HO_9.out (t446 : Int) p30 q30
               replace p30 := eq_true p30
               replace q30 := eq_true q30
               have HP34 := Kd.R_putn HO_9.out (t446 : Int) (rd l2 x8_1)
               rw [← Ny448.out] at HP34
               have HQ34 := Aside0.mk HP34
               clear HP34
               refine hK.out _ _ ⟨((HB.out.cell (World.block_lt_of_cell? w _ hw445_0)).trans hw445_0), ((HB.out.cell (World.block_lt_of_cell? w _ hw447_0)).trans hw447_0)⟩ (fun hHeld => ?_)
               clear hK K
               refine norm_ (a' := ?_) ?_ ?_
               rotate_left
               ·
                show Act.put _ (some 55) _ = _
                simp only [Act.put, List.setIfInBounds_toArray, List.set_cons_zero, List.set_cons_succ, i64_w, i32_w]
                rfl
               refine pure_ (i := 11) (N := some 60) (v := ?_) (a' := ?_) #[true, true, true, true, true, true, true, true, true, true, true, true, false] rfl rfl (any_of HT_.out (by kernel_rfl)) (fun _ _ _ h => h) (Or.inl ⟨by rfl, ?_⟩) ?_ ?_
               rotate_left
               ·
                intro w'
                go_simp
                with_reducible rfl
               rotate_left
               ·
                simp only [Act.put, List.setIfInBounds_toArray, List.set_cons_zero, List.set_cons_succ, i64_w, i32_w]
                rfl
               refine last_ (i := 12) (N := none) #[true, true, true, true, true, true, true, true, true, true, true, true, true] rfl rfl (one_of HT_.out (by kernel_rfl)) (by decide) (fun K hK => ?_)
               refine skip_ (w1 := ?_) (by rfl) rfl ?_ ?_
               rotate_left
               ·
                go_simp
                rfl
               refine hK.out _ _ ?_
               clear hK K
               refine done_ (done_of HT_.out (by kernel_rfl)) ?_
               try go_wp2_with (first | ((with_reducible refine gate_callee (f := 31) rfl ?_); refine goesL_ (some 63) rfl rfl Try.func31 (by kernel_rfl) rfl #[.slice (some ⟨go30, 0, none⟩) y448.length co30, .int .i64 a1] rfl (by (try simp only [List.map_toArray, List.map_cons, List.map_nil]); first | done | (rw [show y448.length = x9_4.length from (Kd.R_reads' HQ34.out).1.symm] <;> rfl) | rfl | (simp only [List.length_drop, List.length_take]; rfl)) ?_; (with_reducible refine (turndownlaw07_tame.calls k3 _ _ y448 a1 t449 _ ?side1 ?side2 A31.out).mono ?_); (case side1 => refine (Kd.R_reads' (e := 3) (base := w.heap.size) (ok := fun k_ => True) (n := x9_4.length) (c := co30) ?_).2.2; exact (by (with_reducible repeat (first | apply Kd.R_alloc | apply Kd.R_drewN | apply Kd.R_drew)); exact HQ34.out)); (case side2 => rw [show y448.length = x9_4.length from (Kd.R_reads' HQ34.out).1.symm]; exact (Kd.R_reads' HO_9.out).2.1); rintro e w35 ⟨v450, rfl, ho0, hb⟩; refine ⟨_, rfl, ?_⟩; have n0_ := Aside0.mk (Kd.S_elder' (by (with_reducible repeat (first | apply Kd.S_alloc | apply Kd.S_drewN | apply Kd.S_drew)); exact (Kd.S_mono (Kd.S_far (p := ⟨go30, (t446 : Int).toNat, none⟩) (Kd.S_mono HO_7.out (fun k_ hk => (⟨hk, fun e_ => hk (by rw [e_]; rfl)⟩ : _ ∧ k_ ≠ go30))) (fun _ hk => hk.2) (.int .i64 (rd l2 x8_1))) (fun _ h_ => h_.1))) (Kd.R_base ho0) hb); have n1_ := Aside0.mk (Kd.R_elder' (by (with_reducible repeat (first | apply Kd.R_alloc | apply Kd.R_drewN | apply Kd.R_drew)); exact HQ34.out) (Kd.R_base ho0) hb); have n2_ := Aside0.mk (Kd.R_lower (Kd.R_new' ho0 (Kd.R_lt (by (with_reducible repeat (first | apply Kd.R_alloc | apply Kd.R_drewN | apply Kd.R_drew)); exact HQ34.out))) (below_size (by repeat (first | (with_reducible first | exact HB.out | apply below_alloc | apply pw_below_drewN | apply below_drew1 | refine below_set ?_ GB30.out) | exact HB.out)))); have n3_ := Aside0.mk (below_step (by repeat (first | (with_reducible first | exact HB.out | apply below_alloc | apply pw_below_drewN | apply below_drew1 | refine below_set ?_ GB30.out) | exact HB.out)) hb); clear HO_7; clear HO_9; clear HB; have HO_7 := n0_; have HO_9 := n1_; have HO451 := n2_; have HB := n3_; clear n0_ n1_ n2_ n3_; (try clear hb); (try clear hb2); (try clear hk); (try clear hi); (try clear ho0); obtain ⟨Ao37, co37, eo37⟩ := Kd.R_slice HO451.out; subst eo37) | ((with_reducible refine gate_builtin (b := .append) (xs := #[.tmp 64, .tmp 66]) rfl ?_); at_builtin; refine Kd.S_append (Kd.slice 3 (Kd.int .i64)) (w0 := w) w.heap.size rfl (.tmp 64) (.tmp 66) 23 22 (.slice none 0 0) 24 rfl Try.underlying23 info22 rfl (by decide) (by omega) u7 x7_1 t449 [.slice Ao37 t449.length co37] (fun k_ => some k_ ≠ (.slice (some ⟨go30, 0, none⟩) x9_4.length co30 : Value).ownBlock) (fun k_ => some k_ = (.slice Ao37 t449.length co37 : Value).ownBlock) rfl rfl ?aP (fun k_ hk_ => ((Kd.R_mono (ok' := fun k_ => ((fun k_ => some k_ ≠ (.slice (some ⟨go30, 0, none⟩) x9_4.length co30 : Value).ownBlock)) k_ ∧ some k_ ≠ (u7 : Value).ownBlock) (Kd.R_apart' (HO451.out) (Kd.S_typed HO_7.out) (by decide)) (fun k_ hk => ⟨hk.1.2, hk.2⟩))).1 k_ hk_.symm) ?aF ?aO ?aB ?aS ?aL ?_; (case aP => exact Kd.M_row (Kd.R_mono (Kd.R_tight rfl (Kd.R_mono (ok' := fun k_ => ((fun k_ => some k_ ≠ (.slice (some ⟨go30, 0, none⟩) x9_4.length co30 : Value).ownBlock)) k_ ∧ some k_ ≠ (u7 : Value).ownBlock) (Kd.R_apart' (HO451.out) (Kd.S_typed HO_7.out) (by decide)) (fun k_ hk => ⟨hk.1.2, hk.2⟩))) (fun _ h_ => h_))); (case aB => exact (by repeat (first | (with_reducible first | exact HB.out | apply below_alloc | apply pw_below_drewN | apply below_drew1) | exact HB.out))); (case aF => exact (fun k_ hk => Kd.fresh' (Kd.R_lt (by (with_reducible repeat (first | apply Kd.R_alloc | apply Kd.R_drewN | apply Kd.R_drew)); exact HO_9.out)) k_ hk)); (case aO => exact (by (with_reducible repeat (first | apply Kd.S_alloc | apply Kd.S_drewN | apply Kd.S_drew)); exact Kd.S_mono HO_7.out (fun k_ hk => ⟨hk.1, fun e_ => hk.2 e_⟩))); (case aS => exact (below_size (by repeat (first | (with_reducible first | exact HB.out | apply below_alloc | apply pw_below_drewN | apply below_drew1) | exact HB.out)))); (case aL => have := LMc32.out; omega); intro v453 w36 ho hb hg hat; rw [← Ny452.out] at ho; have n0_ := Aside0.mk (Kd.R_over' (by (with_reducible repeat (first | apply Kd.R_alloc | apply Kd.R_drewN | apply Kd.R_drew)); exact HO_9.out) (Kd.S_typed (by (with_reducible repeat (first | apply Kd.S_alloc | apply Kd.S_drewN | apply Kd.S_drew)); exact HO_7.out)) (by decide) hg); have n1_ := Aside0.mk (hb); have n2_ := Aside0.mk (ho); clear HO_9; clear HB; clear HO_7; clear HO451; have HO_9 := n0_; have HB := n1_; have HO454 := n2_; clear n0_ n1_ n2_; clear ho hb hg hat))
               go_roundg k3
               case measure => have := HK1.out; have := HJ4.out; have := HK3.out; omega
               case rel => exact ⟨(y452), (wrap64 (x8_1 + 1)), (by first | rfl | (simp; done) | (simp [*]; done)), H', ⟨by have := HK1.out; have := HJ4.out; have := HK3.out; omega⟩, ⟨by (with_reducible repeat (first | apply Kd.S_alloc | apply Kd.S_drewN | apply Kd.S_drew)); exact Kd.S_mono HO454.out (fun _ hk => trivial)⟩, ⟨by repeat (first | (with_reducible first | exact HB.out | apply below_alloc | apply pw_below_drewN | apply below_drew1) | exact HB.out)⟩⟩
              ·
               rw [if_neg c32] at H
               exact absurd H (by simp)
             ·
              rw [if_neg c29] at H
              exact absurd H (by simp)
            ·
             rw [if_neg c28] at H
             exact absurd H (by simp)
           ·
            rw [if_neg c26] at H
            exact absurd H (by simp)
          ·
           rw [if_neg c25] at H
           exact absurd H (by simp)
   ·
    rw [if_neg c4] at H
    have c4b0 : decide (x8_1 < (l2.length : Int)) = false := decide_eq_false c4
    clear c4
    obtain rfl := Option.some.inj H
    go_wp2
    go_ret
    exact ⟨_, by first | rfl | (simp [errW_none, errW_some] <;> rfl) | (simp [*, errW_none, errW_some] <;> rfl), by (with_reducible repeat (first | apply Kd.S_alloc | apply Kd.S_drewN | apply Kd.S_drew)); exact HO_7.out, by repeat (first | (with_reducible first | exact HB.out | apply below_alloc | apply pw_below_drewN | apply below_drew1) | exact HB.out)⟩
end Go.Proofs.Ytakbijpcfnipoaa.PA

set_option linter.unusedVariables false
set_option linter.unusedSimpArgs false
namespace Go.Proofs.Ytakbijpcfnipoaa.L
open Go.RowKit Go.Proofs.YtakbijpcfnipoaaW.PrintWords Go.Proofs.YtakbijpcfnipoaaW.PrintLast Go.Proofs.YtakbijpcfnipoaaW.PrintMore
open Go.Proofs.Ytakbijpcfnipoaa.PA Go.Proofs.Ytakbijpcfnipoaa.A Go.Proofs.Ytakbijpcfnipoaa.Lf
theorem take_snoc_d' {l : List Int} {q : Nat} (h : q < l.length) : l.take (q + 1) = l.take q ++ [l.getD q 0] := by
  rw [List.take_add_one, List.getElem?_eq_getElem h, List.getD_eq_getElem?_getD, List.getElem?_eq_getElem h]; rfl
theorem srt_take_le' {A : List Int} (hA : Srt A) {p : Nat} (hp : p < A.length) : ∀ y ∈ A.take p, y ≤ A.getD p 0 := by
  intro y hy
  obtain ⟨j, hj, rfl⟩ := List.getElem_of_mem hy
  rw [List.length_take] at hj
  rw [List.getElem_take, List.getD_eq_getElem?_getD, List.getElem?_eq_getElem hp]
  exact List.pairwise_iff_getElem.1 hA j p (by omega) hp (by omega)
theorem ins_perm (x : Int) : ∀ l : List Int, (ins x l).Perm (x :: l)
  | [] => List.Perm.refl _
  | y :: l => by
    unfold ins
    split
    · exact (List.Perm.cons y (ins_perm x l)).trans (List.Perm.swap x y l)
    · exact List.Perm.refl _
def modF (x n : Int) : Int := wrap64 (Int.tmod (IntKind.u64.wrap x) (IntKind.u64.wrap n))
theorem u64_wrap (x : Int) : 0 ≤ IntKind.u64.wrap x := by
  unfold IntKind.wrap
  have h : IntKind.u64.signed = false := rfl
  rw [h]
  exact Int.emod_nonneg _ (by decide)
theorem u64_id {n : Int} (h0 : 0 ≤ n) (h1 : n ≤ 1000) : IntKind.u64.wrap n = n := by
  unfold IntKind.wrap
  have h : IntKind.u64.signed = false := rfl
  have h2 : IntKind.u64.bits = 64 := rfl
  rw [h, h2]
  exact Int.emod_eq_of_lt h0 (by omega)
theorem modF_bd (x : Int) {n : Int} (h0 : 0 < n) (h1 : n ≤ 1000) : 0 ≤ modF x n ∧ modF x n < n := by
  unfold modF
  rw [u64_id (by omega) h1, Int.tmod_eq_emod_of_nonneg (u64_wrap x)]
  have a := Int.emod_nonneg (IntKind.u64.wrap x) (by omega : n ≠ 0)
  have b := Int.emod_lt_of_pos (IntKind.u64.wrap x) h0
  rw [wrap_id (by omega) (by omega)]
  exact ⟨a, b⟩
theorem modF_id {x n : Int} (h0 : 0 ≤ x) (hx : x < n) (h1 : n ≤ 1000) : modF x n = x := by
  unfold modF
  rw [u64_id (by omega) h1, u64_id h0 (by omega), Int.tmod_eq_emod_of_nonneg h0, Int.emod_eq_of_lt h0 hx, wrap_id (by omega) (by omega)]
theorem mod_f (x : Int) {n : Int} (h0 : 0 < n) (h1 : n ≤ 1000) : turndownlaw07_mod.f x n = some (modF x n) := by
  unfold turndownlaw07_mod.f
  rw [if_neg (by rw [u64_id (by omega) h1]; omega)]
  rfl
def liftF (l : List Int) : Int := 1 + modF (wrap64 ((l.length : Int) - 1)) 3
theorem liftF_bd (l : List Int) : 1 ≤ liftF l ∧ liftF l ≤ 3 := by
  unfold liftF
  have := modF_bd (wrap64 ((l.length : Int) - 1)) (n := 3) (by omega) (by omega)
  omega
theorem lifted_f (l : List Int) : turndownlaw07_lifted.f l = some (liftF l) := by
  unfold turndownlaw07_lifted.f
  rw [mod_f _ (by omega) (by omega)]
  have := modF_bd (wrap64 ((l.length : Int) - 1)) (n := 3) (by omega) (by omega)
  simp only [Option.bind_some]
  rw [wrap_id (by omega) (by omega)]
  rfl
def tmx (l : List Int) (i : Nat) : Int := if i < l.length then modF (l.getD i 0) 31 else 5 * (i : Int)
theorem tmx_bd (l : List Int) {i : Nat} (hi : i < 3) : 0 ≤ tmx l i ∧ tmx l i ≤ 30 := by
  unfold tmx
  split
  · have := modF_bd (l.getD i 0) (n := 31) (by omega) (by omega); omega
  · omega
theorem tame_ev {k : Nat} (hk3 : k ≤ 3) (l : List Int) : ∃ r, Ev (fun n => turndownlaw07_tame.f n l (k : Int)) r ∧ Srt r ∧ r.Perm ((List.range k).map (tmx l)) := by
  have k1 : ∀ j (S Z : List Int) (y x : Int) (r : List Int), j ≤ S.length → Srt S → (∀ u ∈ S.drop j, x < u) → S.length + 1 + Z.length = k → j + 0 ≤ S.length →
      (∀ S', Srt S' → S'.Perm (x :: S) → Ev (fun n => turndownlaw07_tame.l0 n l (k : Int) (S' ++ Z) ((S.length + 1 : Nat) : Int)) r) →
      Ev (fun n => turndownlaw07_tame.l1 n l (k : Int) (S.take j ++ y :: (S.drop j ++ Z)) (S.length : Int) x (j : Int)) r := by
    intro j
    induction j with
    | zero =>
      intro S Z y x r hj hS hd hlen _ hr
      rw [List.take_zero, List.drop_zero, List.nil_append]
      rw [List.drop_zero] at hd
      have h := hr (x :: S) (List.pairwise_cons.2 ⟨fun u hu => by have := hd u hu; omega, hS⟩) (List.Perm.refl _)
      refine Ev.step (fun n => ?_) h
      rw [turndownlaw07_tame.l1, if_neg (by omega), if_pos (by omega), if_pos (by simp only [List.length_cons]; omega), w1 (by omega)]
      rfl
    | succ j ih =>
      intro S Z y x r hj hS hd hlen _ hr
      have hjl : j < S.length := by omega
      have htl : (S.take (j + 1)).length = j + 1 := by rw [List.length_take]; omega
      have hls : (S.take (j + 1) ++ y :: (S.drop (j + 1) ++ Z)).length = k := by
        simp only [List.length_append, List.length_cons, List.length_take, List.length_drop]; omega
      have hgj : (S.take (j + 1) ++ y :: (S.drop (j + 1) ++ Z)).getD j 0 = S.getD j 0 := by
        rw [List.getD_eq_getElem?_getD, List.getElem?_append_left (by omega), List.getElem?_take_of_lt (by omega), ← List.getD_eq_getElem?_getD]
      have hset : ∀ u, (S.take (j + 1) ++ y :: (S.drop (j + 1) ++ Z)).set (j + 1) u = S.take (j + 1) ++ u :: (S.drop (j + 1) ++ Z) := fun u => by
        rw [List.set_append_right _ _ (by omega), htl, Nat.sub_self]; rfl
      by_cases c : S.getD j 0 > x
      · have e1 : S.take (j + 1) ++ S.getD j 0 :: (S.drop (j + 1) ++ Z) = S.take j ++ S.getD j 0 :: (S.drop j ++ Z) := by
          rw [take_snoc_d' hjl, drop_cons hjl 0, List.append_assoc]; rfl
        have h := ih S Z (S.getD j 0) x r (by omega) hS (fun u hu => by
          rw [drop_cons hjl 0] at hu
          rcases List.mem_cons.1 hu with rfl | hu
          · exact c
          · exact hd u hu) hlen (by omega) hr
        refine Ev.step (fun n => ?_) h
        rw [turndownlaw07_tame.l1, if_pos (by omega), wm (by omega), if_pos (by omega), if_pos (by rw [hls]; omega), rd_nat, hgj, if_pos c, if_pos (by omega), if_pos (by rw [hls]; omega), Int.toNat_natCast, hset, e1]
      · have hle : ∀ u ∈ S.take (j + 1), u ≤ x := fun u hu => by
          rw [take_snoc_d' hjl] at hu
          rcases List.mem_append.1 hu with hu | hu
          · have := srt_take_le' hS hjl u hu; omega
          · rw [List.mem_singleton.1 hu]; omega
        have hS' : Srt (S.take (j + 1) ++ x :: S.drop (j + 1)) := by
          refine List.pairwise_append.2 ⟨hS.sublist (List.take_sublist _ _), List.pairwise_cons.2 ⟨fun u hu => by have := hd u hu; omega, hS.sublist (List.drop_sublist _ _)⟩, fun a ha b hb => ?_⟩
          rcases List.mem_cons.1 hb with rfl | hb
          · exact hle a ha
          · have := hle a ha; have := hd b hb; omega
        have hP : (S.take (j + 1) ++ x :: S.drop (j + 1)).Perm (x :: S) := by
          have h1 := List.perm_middle (a := x) (l₁ := S.take (j + 1)) (l₂ := S.drop (j + 1))
          rwa [List.take_append_drop] at h1
        have h := hr _ hS' hP
        refine Ev.step (fun n => ?_) h
        rw [turndownlaw07_tame.l1, if_pos (by omega), wm (by omega), if_pos (by omega), if_pos (by rw [hls]; omega), rd_nat, hgj, if_neg c, if_pos (by omega), if_pos (by rw [hls]; omega), Int.toNat_natCast, hset, w1 (by omega), List.append_assoc]
        rfl
  have k0 : ∀ e i (S : List Int), i + e = k → S.length = i → Srt S → S.Perm ((List.range i).map (tmx l)) → ∃ r, Ev (fun n => turndownlaw07_tame.l0 n l (k : Int) (S ++ List.replicate e 0) (i : Int)) r ∧ Srt r ∧ r.Perm ((List.range k).map (tmx l)) := by
    intro e
    induction e with
    | zero =>
      intro i S hi hSl hS hP
      obtain rfl : i = k := by omega
      refine ⟨S, Ev.step (fun n => ?_) (Ev.now _), hS, hP⟩
      rw [turndownlaw07_tame.l0, if_neg (by omega)]
      simp
    | succ e ih =>
      intro i S hi hSl hS hP
      have hx : 0 ≤ tmx l i ∧ tmx l i ≤ 30 := tmx_bd l (by omega)
      have hex : ∃ r, (∀ S', Srt S' → S'.Perm (tmx l i :: S) → Ev (fun n => turndownlaw07_tame.l0 n l (k : Int) (S' ++ List.replicate e 0) ((i + 1 : Nat) : Int)) r) ∧ Srt r ∧ r.Perm ((List.range k).map (tmx l)) := by
        obtain ⟨S0, hS0, hP0⟩ : ∃ S', Srt S' ∧ S'.Perm (tmx l i :: S) := ⟨ins (tmx l i) S, ins_srt hS, ins_perm _ _⟩
        have hP1 : ∀ S' : List Int, S'.Perm (tmx l i :: S) → S'.Perm ((List.range (i + 1)).map (tmx l)) := fun S' h => by
          rw [List.range_succ, List.map_append]
          exact h.trans ((List.Perm.cons _ hP).trans (List.perm_append_comm (l₁ := [tmx l i])))
        obtain ⟨r, h1, h2, h3⟩ := ih (i + 1) S0 (by omega) (by rw [hP0.length_eq]; simp [hSl]) hS0 (hP1 S0 hP0)
        refine ⟨r, fun S' hs hp => ?_, h2, h3⟩
        have : S' = S0 := List.Perm.eq_of_pairwise (fun a b _ _ h1 h2 => Int.le_antisymm h1 h2) hs hS0 (hp.trans hP0.symm)
        rw [this]; exact h1
      obtain ⟨r, h1, h2, h3⟩ := hex
      refine ⟨r, ?_, h2, h3⟩
      have hl1 : Ev (fun n => turndownlaw07_tame.l1 n l (k : Int) (S.take S.length ++ 0 :: (S.drop S.length ++ List.replicate e 0)) (S.length : Int) (tmx l i) ((S.length : Nat) : Int)) r :=
        k1 S.length S (List.replicate e 0) 0 (tmx l i) r (Nat.le_refl _) hS (fun u hu => by rw [List.drop_length] at hu; cases hu) (by rw [List.length_replicate]; omega) (by omega) (fun S' hs hp => by rw [hSl]; exact h1 S' hs hp)
      rw [List.take_length, List.drop_length, List.nil_append, hSl] at hl1
      have hj1 : Ev (fun n => turndownlaw07_tame.j1 n l (k : Int) (S ++ 0 :: List.replicate e 0) (i : Int) (tmx l i)) r := Ev.step (fun n => by rw [turndownlaw07_tame.j1]) hl1
      refine Ev.step (fun n => ?_) hj1
      rw [turndownlaw07_tame.l0, if_pos (by omega)]
      by_cases c : i < l.length
      · rw [if_pos (by omega), if_pos (by omega), rd_nat, mod_f _ (by omega) (by omega)]
        simp only [Option.bind_some]
        unfold tmx
        rw [if_pos c]
        rfl
      · rw [if_neg (by omega), wrap_id (by omega) (by omega)]
        unfold tmx
        rw [if_neg c]
        rfl
  obtain ⟨r, h1, h2, h3⟩ := k0 k 0 [] (by omega) rfl (by simp [Srt]) (List.Perm.refl _)
  refine ⟨r, Ev.congr (fun n => ?_) h1, h2, h3⟩
  rw [turndownlaw07_tame.f, if_pos (by omega), Int.toNat_natCast, if_pos (by omega)]
  rfl
theorem tame_pos {k : Nat} (hk3 : k ≤ 3) {l r : List Int} (hs : Srt r) (hp : r.Perm ((List.range k).map (tmx l))) : Pos k r := by
  refine ⟨by rw [hp.length_eq]; simp, hs, fun y hy => ?_⟩
  have := hp.mem_iff.1 hy
  obtain ⟨i, hi, rfl⟩ := List.mem_map.1 this
  exact tmx_bd l (by have := List.mem_range.1 hi; omega)
def clF (l : List Int) (m : Nat) : List Int := (l.take m).map (fun x => modF x 31)
theorem clF_fls (l : List Int) (m : Nat) : Fls (clF l m) := by
  intro x hx
  obtain ⟨y, _, rfl⟩ := List.mem_map.1 hx
  have := modF_bd y (n := 31) (by omega) (by omega)
  exact ⟨this.1, by omega⟩
theorem clF_len (l : List Int) (m : Nat) : (clF l m).length ≤ m := by unfold clF; rw [List.length_map, List.length_take]; omega
theorem calls_ev2 (l : List Int) {m : Nat} (hm : m ≤ 1000) : Ev (fun n => turndownlaw07_calls.f n l (m : Int)) (clF l m) := by
  have key : ∀ e q (o : List Int), q + e = min l.length m → o.length = q → Ev (fun n => turndownlaw07_calls.l0 n l (m : Int) o (q : Int)) (o ++ ((l.take m).drop q).map (fun x => modF x 31)) := by
    intro e
    induction e with
    | zero =>
      intro q o hq ho
      rw [List.drop_of_length_le (by rw [List.length_take]; omega)]
      refine Ev.step (fun k => ?_) (Ev.now _)
      by_cases c : (q : Int) < (l.length : Int)
      · rw [turndownlaw07_calls.l0, if_pos c, if_neg (by omega)]; simp
      · rw [turndownlaw07_calls.l0, if_neg c]; simp
    | succ e ih =>
      intro q o hq ho
      have hql : q < l.length := by omega
      have e1 : (l.take m).drop q = l.getD q 0 :: (l.take m).drop (q + 1) := by
        rw [drop_cons (by rw [List.length_take]; omega) 0]
        congr 1
        rw [List.getD_eq_getElem?_getD, List.getD_eq_getElem?_getD, List.getElem?_take_of_lt (by omega)]
      rw [e1]
      refine Ev.step (fun k => ?_) (Ev.cong (ih (q + 1) (o ++ [modF (l.getD q 0) 31]) (by omega) (by simp [ho])) (by simp))
      rw [turndownlaw07_calls.l0, if_pos (by omega), if_pos (by omega), if_pos (by omega), rd_nat, mod_f _ (by omega) (by omega)]
      simp only [Option.bind_some]
      rw [if_pos (by omega), w1 (by omega)]
  exact Ev.cong (key (min l.length m) 0 [] (by omega) rfl) rfl
theorem served_ev {k : Nat} (hk1 : 1 ≤ k) (hk3 : k ≤ 3) (l : List (List Int)) {c : List Int} (hc : Fls c) (hcl : c.length ≤ 1000) :
    ∃ r, Ev (fun n => turndownlaw07_served.f n l (k : Int) c) r ∧ r.length = c.length ∧ ∀ i, i < c.length → Pos k (r.getD i []) ∧ c.getD i 0 ∈ r.getD i [] := by
  have kf : ∀ e j (p : List Int) (b : Bool) (o : List (List Int)) (q : Nat) (res : List (List Int)), j + e = k → p.length = k → q < c.length → b = (p.take j).contains (c.getD q 0) →
      Ev (fun n => turndownlaw07_served.l1 n l (k : Int) c o (q : Int) p (p.contains (c.getD q 0)) ((k : Nat) : Int)) res → Ev (fun n => turndownlaw07_served.l1 n l (k : Int) c o (q : Int) p b (j : Int)) res := by
    intro e
    induction e with
    | zero =>
      intro j p b o q res hj hp hq hb h
      obtain rfl : j = k := by omega
      rw [List.take_of_length_le (by omega)] at hb
      rw [hb]; exact h
    | succ e ih =>
      intro j p b o q res hj hp hq hb h
      have hjl : j < p.length := by omega
      have hb2 : (p.take (j + 1)).contains (c.getD q 0) = (b || (p.getD j 0 == c.getD q 0)) := by
        rw [take_snoc_d' hjl, List.contains_append, ← hb]
        congr 1
        simp only [List.contains_cons, List.contains_nil, Bool.or_false]
        rw [Bool.beq_comm]
      cases b with
      | true =>
        refine Ev.step (fun n => ?_) (ih (j + 1) p true o q res (by omega) hp hq (by rw [hb2]; rfl) h)
        rw [turndownlaw07_served.l1, if_pos (by omega), if_pos rfl, w1 (by omega)]
      | false =>
        refine Ev.step (fun n => ?_) (ih (j + 1) p (p.getD j 0 == c.getD q 0) o q res (by omega) hp hq (by rw [hb2]; rfl) h)
        rw [turndownlaw07_served.l1, if_pos (by omega), if_neg (by simp), if_pos (by omega), if_pos (by omega), if_pos (by omega), if_pos (by omega), rd_nat, rd_nat, w1 (by omega)]
  have kr : ∀ (p : List Int) (o : List (List Int)) (q : Nat), Pos k p → q < c.length → o.length = q → ∃ p', Pos k p' ∧ c.getD q 0 ∈ p' ∧ ∀ res, Ev (fun n => turndownlaw07_served.l0 n l (k : Int) c (o ++ [p']) ((q + 1 : Nat) : Int)) res → Ev (fun n => turndownlaw07_served.j1 n l (k : Int) c o (q : Int) p) res := by
    intro p o q hp hq ho
    have hf : Fl (c.getD q 0) := fl_getD hc hq
    by_cases hh : p.contains (c.getD q 0) = true
    · refine ⟨p, hp, by simpa using hh, fun res h => ?_⟩
      refine Ev.step (fun n => by rw [turndownlaw07_served.j1]; rfl) (kf k 0 p false o q res (by omega) hp.len hq (by rw [List.take_zero]; rfl) ?_)
      rw [hh]
      refine Ev.step (fun n => ?_) h
      rw [turndownlaw07_served.l1, if_neg (by omega), if_pos rfl, if_pos (by omega), w1 (by omega)]
    · have hm := modF_bd (c.getD q 0) (n := (k : Int)) (by omega) (by omega)
      obtain ⟨m, hmm⟩ : ∃ m : Nat, modF (c.getD q 0) (k : Int) = (m : Int) := ⟨(modF (c.getD q 0) (k : Int)).toNat, by omega⟩
      rw [hmm] at hm
      have hmk : m < p.length := by rw [hp.len]; omega
      obtain ⟨p', h1, h2, h3⟩ := tame_ev hk3 (p.set m (c.getD q 0))
      have hpos := tame_pos hk3 h2 h3
      have hin : c.getD q 0 ∈ p' := by
        rw [h3.mem_iff]
        refine List.mem_map.2 ⟨m, List.mem_range.2 (by rw [← hp.len]; exact hmk), ?_⟩
        unfold tmx
        rw [if_pos (by rw [List.length_set]; exact hmk), List.getD_eq_getElem?_getD, List.getElem?_set_self hmk]
        show modF (c.getD q 0) 31 = c.getD q 0
        exact modF_id hf.1 (by have := hf.2; omega) (by omega)
      refine ⟨p', hpos, hin, fun res h => ?_⟩
      refine Ev.step (fun n => by rw [turndownlaw07_served.j1]; rfl) (kf k 0 p false o q res (by omega) hp.len hq (by rw [List.take_zero]; rfl) ?_)
      rw [Bool.eq_false_iff.2 hh]
      refine Ev.step (fun n => ?_) (Ev.bind (f := fun n t => if o.length < 5864062014805 then turndownlaw07_served.l0 n l (k : Int) c (o ++ [t]) ((q + 1 : Nat) : Int) else none) h1 ?_)
      · rw [turndownlaw07_served.l1, if_neg (by omega), if_neg (by simp), if_pos (by omega), if_pos (by omega), rd_nat, mod_f _ (by omega) (by omega)]
        simp only [Option.bind_some, hmm]
        rw [if_pos (by omega), if_pos (by omega), Int.toNat_natCast, w1 (by omega)]
      · simp only [if_pos (show o.length < 5864062014805 by omega)]
        exact h
  have k0 : ∀ e q (o : List (List Int)), q + e = c.length → o.length = q → (∀ i, i < q → Pos k (o.getD i []) ∧ c.getD i 0 ∈ o.getD i []) → ∃ r, Ev (fun n => turndownlaw07_served.l0 n l (k : Int) c o (q : Int)) r ∧ r.length = c.length ∧ ∀ i, i < c.length → Pos k (r.getD i []) ∧ c.getD i 0 ∈ r.getD i [] := by
    intro e
    induction e with
    | zero =>
      intro q o hq ho h
      obtain rfl : q = c.length := by omega
      exact ⟨o, Ev.step (fun n => by rw [turndownlaw07_served.l0, if_neg (by omega)]) (Ev.now _), ho, h⟩
    | succ e ih =>
      intro q o hq ho h
      have hqc : q < c.length := by omega
      have hpp : ∃ p, Pos k p ∧ ∀ res, Ev (fun n => turndownlaw07_served.j1 n l (k : Int) c o (q : Int) p) res → Ev (fun n => turndownlaw07_served.l0 n l (k : Int) c o (q : Int)) res := by
        by_cases cl : q < l.length
        · obtain ⟨p, h1, h2, h3⟩ := tame_ev hk3 (l.getD q [])
          refine ⟨p, tame_pos hk3 h2 h3, fun res hr => Ev.step (fun n => ?_) (Ev.bind (f := fun n t => turndownlaw07_served.j1 n l (k : Int) c o (q : Int) t) h1 hr)⟩
          rw [turndownlaw07_served.l0, if_pos (by omega), if_pos (by omega), if_pos (by omega), rdL_nat]
        · obtain ⟨p, h1, h2, h3⟩ := tame_ev hk3 []
          refine ⟨p, tame_pos hk3 h2 h3, fun res hr => Ev.step (fun n => ?_) (Ev.bind (f := fun n t => turndownlaw07_served.j1 n l (k : Int) c o (q : Int) t) h1 hr)⟩
          rw [turndownlaw07_served.l0, if_pos (by omega), if_neg (by omega)]
      obtain ⟨p, hp, hgo⟩ := hpp
      obtain ⟨p', g1, g2, g3⟩ := kr p o q hp hqc ho
      obtain ⟨r, r1, r2⟩ := ih (q + 1) (o ++ [p']) (by omega) (by simp [ho]) (fun i hi => by
        by_cases e : i = q
        · subst e
          rw [List.getD_eq_getElem?_getD, List.getElem?_append_right (by omega), ho, Nat.sub_self]
          exact ⟨g1, g2⟩
        · rw [List.getD_eq_getElem?_getD, List.getElem?_append_left (by omega), ← List.getD_eq_getElem?_getD]
          exact h i (by omega))
      exact ⟨r, hgo r (g3 r r1), r2⟩
  exact k0 c.length 0 [] (by omega) rfl (fun i hi => absurd hi (Nat.not_lt_zero _))
end Go.Proofs.Ytakbijpcfnipoaa.L

set_option linter.unusedVariables false
set_option linter.unusedSimpArgs false
namespace Go.Proofs.Ytakbijpcfnipoaa.L
open Go.RowKit Go.Proofs.YtakbijpcfnipoaaW.PrintWords Go.Proofs.YtakbijpcfnipoaaW.PrintLast Go.Proofs.YtakbijpcfnipoaaW.PrintMore
open Go.Proofs.Ytakbijpcfnipoaa.PA Go.Proofs.Ytakbijpcfnipoaa.A Go.Proofs.Ytakbijpcfnipoaa.Lf
section
variable {w W : World} {I : RI} {T : RT}
theorem lifted_E (h : Env w W I T) {A : Option Addr} {c : Nat} {l : List Int} (hm : (A, c, l) ∈ I) {k : Nat} (hk : liftF l = (k : Int)) :
    Calls Try.prog 30 #[.slice A l.length c] W fun e w' => e = .returned (.int .i64 (k : Int)) ∧ Env w w' I T := by
  have hf := lifted_f l
  rw [hk] at hf
  refine (turndownlaw07_lifted.calls A c l _ W (h.is _ hm).1 (h.is _ hm).2 hf).mono ?_
  rintro e w' ⟨rfl, hb⟩
  exact ⟨rfl, h.drawn hb⟩
theorem tame_E (h : Env w W I T) {A : Option Addr} {c : Nat} {l : List Int} (hm : (A, c, l) ∈ I) {k : Nat} {r : List Int} (hr : Ev (fun n => turndownlaw07_tame.f n l (k : Int)) r) :
    Calls Try.prog 31 #[.slice A l.length c, .int .i64 (k : Int)] W fun e w' => ∃ A' c', e = .returned (.slice A' r.length c') ∧ Env w w' ((A', c', r) :: I) T := by
  obtain ⟨n, hn⟩ := Ev.rounds hr
  refine (turndownlaw07_tame.calls n A c l _ r W (h.is _ hm).1 (h.is _ hm).2 hn).mono ?_
  rintro e w' ⟨v, rfl, hR, hb⟩
  obtain ⟨A', c', rfl, g1, g2⟩ := Kd.R_reads hR
  exact ⟨A', c', rfl, (h.below hb).addI g2 g1⟩
theorem made_E (h : Env w W I T) {A : Option Addr} {c : Nat} {l : List Int} (hm : (A, c, l) ∈ I) {m : Nat} (hm' : m ≤ 1000) {r : List Int} (hr : clF l m = r) :
    Calls Try.prog 32 #[.slice A l.length c, .int .i64 (m : Int)] W fun e w' => ∃ A' c', e = .returned (.slice A' r.length c') ∧ Env w w' ((A', c', r) :: I) T := by
  subst hr
  obtain ⟨n, hn⟩ := Ev.rounds (calls_ev2 l hm')
  refine (turndownlaw07_calls.calls n A c l _ _ W (h.is _ hm).1 (h.is _ hm).2 hn).mono ?_
  rintro e w' ⟨v, rfl, hR, hb⟩
  obtain ⟨A', c', rfl, g1, g2⟩ := Kd.R_reads hR
  exact ⟨A', c', rfl, (h.below hb).addI g2 g1⟩
theorem served_E (h : Env w W I T) {A A1 : Option Addr} {c c1 : Nat} {l : List (List Int)} {cs : List Int} (hm : (A, c, l) ∈ T) (hm1 : (A1, c1, cs) ∈ I) {k : Nat} {r : List (List Int)} (hr : Ev (fun n => turndownlaw07_served.f n l (k : Int) cs) r) :
    Calls Try.prog 33 #[.slice A l.length c, .int .i64 (k : Int), .slice A1 cs.length c1] W fun e w' => ∃ A' c', e = .returned (.slice A' r.length c') ∧ Env w w' I ((A', c', r) :: T) := by
  obtain ⟨n, hn⟩ := Ev.rounds hr
  refine (turndownlaw07_served.calls n A c l _ A1 c1 cs r W (h.ts _ hm).1 (h.ts _ hm).2 (h.is _ hm1).1 (h.is _ hm1).2 hn).mono ?_
  rintro e w' ⟨v, rfl, hR, hb⟩
  obtain ⟨A', c', rfl, g1, g2⟩ := Kd.S_reads hR
  exact ⟨A', c', rfl, (h.below hb).addT g2 g1⟩
end
def Serves (k : Nat) (c : List Int) (L : List (List Int)) : Prop := L.length = c.length ∧ ∀ i, i < c.length → Pos k (L.getD i []) ∧ c.getD i 0 ∈ L.getD i []
theorem Serves.sched {k : Nat} : ∀ {c : List Int} {L : List (List Int)}, Serves k c L → Sched k c L
  | [], [], _ => trivial
  | [], _ :: _, h => by have := h.1; simp at this
  | _ :: _, [], h => by have := h.1; simp at this
  | f :: c, s :: L, h => by
    refine ⟨(h.2 0 (by simp)).1, (h.2 0 (by simp)).2, Serves.sched ⟨by have := h.1; simpa using this, fun i hi => ?_⟩⟩
    have := h.2 (i + 1) (by simp; omega)
    simpa using this
theorem Serves.ofSched {k : Nat} : ∀ {c : List Int} {L : List (List Int)}, Sched k c L → Serves k c L
  | [], [], _ => ⟨rfl, fun i hi => absurd hi (Nat.not_lt_zero _)⟩
  | [], _ :: _, h => h.elim
  | _ :: _, [], h => h.elim
  | f :: c, s :: L, h => by
    have ih := Serves.ofSched h.2.2
    refine ⟨by simp [ih.1], fun i hi => ?_⟩
    cases i with
    | zero => exact ⟨h.1, h.2.1⟩
    | succ i => simpa using ih.2 i (by simpa using hi)
theorem Serves.ok {k : Nat} (hk1 : 1 ≤ k) (hk3 : k ≤ 3) {c : List Int} {L : List (List Int)} (h : Serves k c L) : schedB k c L = true := by
  unfold schedB
  rw [decide_eq_true h.1, Bool.true_and, List.all_eq_true]
  intro i hi
  rw [List.mem_range, h.1] at hi
  obtain ⟨h1, h2⟩ := h.2 i hi
  unfold okI
  have h3 := h1.len
  have h4 : posB (L.getD i []) = true := posB_iff.2 ⟨by omega, by omega, by rw [h3]; exact h1⟩
  rw [h4, decide_eq_true h3]
  simpa using h2
theorem Serves.cost {s c : List Int} {L : List (List Int)} (hh : hallB s c = true) (h : Serves s.length c L) : lifts_Cost.f s c L = some (Lf.cost s L, 0) := by
  obtain ⟨hp, hcb⟩ : posB s = true ∧ callB c = true := by simpa [hallB] using hh
  obtain ⟨hk1, hk3, hs⟩ := posB_iff.1 hp
  unfold lifts_Cost.f
  rw [hh, h.ok hk1 hk3]
  rfl
theorem Serves.fs {k : Nat} (hk1 : 1 ≤ k) (hk3 : k ≤ 3) {s c : List Int} (hs : Pos k s) (hc : Fls c) (h40 : c.length ≤ 40) : Serves k c (fsF k (dist s) s c) :=
  ⟨fsF_len _ _ _ _, fun i hi => ⟨fsP_pos hk1 hk3 hs hc h40 (i + 1) hi, fsP_has hk1 hk3 hs hc h40 hi⟩⟩
theorem hall_of {k : Nat} (hk1 : 1 ≤ k) (hk3 : k ≤ 3) {s c : List Int} (hs : Pos k s) (hc : Fls c) (h40 : c.length ≤ 40) : hallB s c = true := by
  have h1 := hs.len
  unfold hallB
  rw [posB_iff.2 ⟨by omega, by omega, by rw [h1]; exact hs⟩, callB_iff.2 ⟨h40, hc⟩]
  rfl
end Go.Proofs.Ytakbijpcfnipoaa.L

set_option linter.unusedVariables false
set_option linter.unusedSimpArgs false
namespace Go.Proofs.Ytakbijpcfnipoaa.L
open Go.RowKit Go.Proofs.YtakbijpcfnipoaaW.PrintWords Go.Proofs.YtakbijpcfnipoaaW.PrintLast Go.Proofs.YtakbijpcfnipoaaW.PrintMore
open Go.Proofs.Ytakbijpcfnipoaa.PA Go.Proofs.Ytakbijpcfnipoaa.A Go.Proofs.Ytakbijpcfnipoaa.Lf
set_option maxHeartbeats 16000000 in
set_option maxRecDepth 100000 in
theorem least_c (A0 : Option Addr) (c0 : Nat) (l0 : List Int) (A1 : Option Addr) (c1 : Nat) (l1 : List Int) (A2 : Option Addr) (c2 : Nat) (l2 : List (List Int)) (w : World) (h0 : Kd.C (Kd.int .i64) w A0 l0.length l0) (hc0 : l0.length ≤ c0) (h1 : Kd.C (Kd.int .i64) w A1 l1.length l1) (hc1 : l1.length ≤ c1) (h2 : Kd.C (Kd.slice 3 (Kd.int .i64)) w A2 l2.length l2) (hc2 : l2.length ≤ c2) :
    Calls Try.prog 13 #[.slice A0 l0.length c0, .slice A1 l1.length c1, .slice A2 l2.length c2] w fun e w' => e = .returned (.bool true) ∧ Below w.heap.size w w' := by
  have HE0 : Hid (Env w w [(A0, c0, l0), (A1, c1, l1)] [(A2, c2, l2)]) := Lib.hid ((((Env.start w).addI h1 hc1).addI h0 hc0).addT h2 hc2)
  have hkb := liftF_bd l0
  obtain ⟨k, hk⟩ : ∃ k : Nat, liftF l0 = (k : Int) := ⟨(liftF l0).toNat, by omega⟩
  rw [hk] at hkb
  have hk1 : 1 ≤ k := by omega
  have hk3 : k ≤ 3 := by omega
  obtain ⟨s, hsE, hsS, hsP⟩ := tame_ev hk3 l0
  have hsp := tame_pos hk3 hsS hsP
  obtain ⟨c, hcE⟩ : ∃ c, clF l1 20 = c := ⟨_, rfl⟩
  have hcf : Fls c := by rw [← hcE]; exact clF_fls _ _
  have hcl : c.length ≤ 20 := by rw [← hcE]; exact clF_len _ _
  have hh := hall_of hk1 hk3 hsp hcf (by omega)
  have hlen := hsp.len
  rw [← hlen] at hsp
  have hk1' : 1 ≤ s.length := by omega
  have hk3' : s.length ≤ 3 := by omega
  have hbk := bkF_back hk1' c (dist s) hcf (first_lip _ hsp) (fun x _ => dist_nonneg s x)
  have hSB := Serves.ofSched (Back.sched hbk)
  have hSX := Serves.ofSched (run_sched (k := s.length) (st := Lf.serve) (fun s' f hs hf => serve_pos hk1' hk3' hs hf.1 hf.2) hsp hcf)
  have hSY := Serves.ofSched (run_sched (k := s.length) (st := near) (fun s' f hs hf => near_pos hk1' hs hf) hsp hcf)
  have hSZ := Serves.fs hk1' hk3' hsp hcf (by omega)
  obtain ⟨Wl, hWE, hWl, hWp⟩ := served_ev hk1 hk3 l2 hcf (by omega)
  have hSW : Serves s.length c Wl := ⟨hWl, by rw [hlen]; exact hWp⟩
  have hle : ∀ L, Serves s.length c L → cost s (bkF s.length (dist s) c) ≤ cost s L := fun L hL => best_le hk1' hsp hcf hbk hL.sched
  have HLI := Lib.hid hk
  have HTA := Lib.hid hsE
  have HCL := Lib.hid hcE
  have HWE := Lib.hid hWE
  have hx := hle _ hSX
  have hy := hle _ hSY
  have hz := hle _ hSZ
  have hw := hle _ hSW
  have HF1 : Hid (lifts_Best.f s c = some (bkF s.length (dist s) c, cost s (bkF s.length (dist s) c), 0)) := Lib.hid (by unfold lifts_Best.f; rw [hh]; rfl)
  have HF2 : Hid (lifts_Careful.f s c = some (runL Lf.serve s c, cost s (runL Lf.serve s c), 0)) := Lib.hid (by unfold lifts_Careful.f; rw [hh]; rfl)
  have HF3 : Hid (lifts_Nearest.f s c = some (runL near s c, cost s (runL near s c), 0)) := Lib.hid (by unfold lifts_Nearest.f; rw [hh]; rfl)
  have HF4 : Hid (lifts_Foresee.f s c = some (fsF s.length (dist s) s c, cost s (fsF s.length (dist s) s c), 0)) := Lib.hid (by unfold lifts_Foresee.f; rw [hh]; rfl)
  have HC1 := Lib.hid (hSB.cost hh)
  have HC2 := Lib.hid (hSX.cost hh)
  have HC3 := Lib.hid (hSY.cost hh)
  have HC4 := Lib.hid (hSZ.cost hh)
  have HC5 := Lib.hid (hSW.cost hh)
  obtain ⟨Bl, hB⟩ : ∃ X, bkF s.length (dist s) c = X := ⟨_, rfl⟩
  obtain ⟨X, hX⟩ : ∃ X, runL Lf.serve s c = X := ⟨_, rfl⟩
  obtain ⟨Y, hY⟩ : ∃ X, runL near s c = X := ⟨_, rfl⟩
  obtain ⟨Z, hZ⟩ : ∃ X, fsF s.length (dist s) s c = X := ⟨_, rfl⟩
  rw [hB] at HF1 HC1 hx hy hz hw
  rw [hX] at HF2 HC2 hx
  rw [hY] at HF3 HC3 hy
  rw [hZ] at HF4 HC4 hz
  obtain ⟨qb, e1⟩ : ∃ q, cost s Bl = q := ⟨_, rfl⟩
  obtain ⟨qx, e2⟩ : ∃ q, cost s X = q := ⟨_, rfl⟩
  obtain ⟨qy, e3⟩ : ∃ q, cost s Y = q := ⟨_, rfl⟩
  obtain ⟨qz, e4⟩ : ∃ q, cost s Z = q := ⟨_, rfl⟩
  obtain ⟨qw, e5⟩ : ∃ q, cost s Wl = q := ⟨_, rfl⟩
  rw [e1] at HF1 HC1 hx hy hz hw
  rw [e2] at HF2 HC2 hx
  rw [e3] at HF3 HC3 hy
  rw [e4] at HF4 HC4 hz
  rw [e5] at HC5 hw
  clear hB hX hY hZ e1 e2 e3 e4 e5 hle hSB hSX hSY hSZ hSW hbk hWE hWl hWp hlen hsE hsS hsP hsp hcE hcf hh hk h0 h1 h2 hc0 hc1 hc2 hkb hk1' hk3'
  go_enter Try.func13, Try.ntmps13
  go_upto_region 2 with (go_at_call 30; (with_reducible refine (lifted_E HE0.out (A := A0) (c := c0) (l := l0) (by simp) HLI.out).mono ?_); rintro e w1 ⟨rfl, hE1⟩)
  have HE1 := Lib.hid hE1
  clear hE1
  have HM20 : Hid (∀ W I T, Env w W I T → (A1, c1, l1) ∈ I → Calls Try.prog 32 #[.slice A1 l1.length c1, .int .i64 20] W fun e w' => ∃ A' c', e = .returned (.slice A' c.length c') ∧ Env w w' ((A', c', c) :: I) T) := Lib.hid (fun W I T h hm => made_E h hm (m := 20) (by omega) HCL.out)
  go_upto_region 3 with (first | (go_at_call 31; (with_reducible refine (tame_E HE1.out (A := A0) (c := c0) (l := l0) (by simp) HTA.out).mono ?_); rintro e w2 ⟨As, cs, rfl, hE2⟩) | (go_at_call 32; (with_reducible refine (HM20.out _ _ _ hE2 (by simp)).mono ?_); rintro e w3 ⟨Ac, cc, rfl, hE3⟩))
  have HE3 := Lib.hid hE3
  clear hE2 hE3
  go_upto_region 4 with (go_at_call 22; (with_reducible refine (best_E HE3.out (A0 := As) (c0 := cs) (s := s) (A1 := Ac) (c1 := cc) (c := c) (by simp) (by simp) HF1.out).mono ?_); rintro e w4 ⟨Ab, cb, rfl, hE4⟩)
  have HE4 := Lib.hid hE4
  clear hE4
  go_upto_region 5 with (go_at_call 16; (with_reducible refine (cost_E HE4.out (A0 := As) (c0 := cs) (s := s) (A1 := Ac) (c1 := cc) (c := c) (by simp) (by simp) (A2 := Ab) (c2 := cb) (l := Bl) (by simp) HC1.out).mono ?_); rintro e w5 ⟨rfl, hE5⟩)
  have HE5 := Lib.hid hE5
  clear hE5
  go_upto_region 8 with (go_at_call 34; (with_reducible refine (careful_E HE5.out (A0 := As) (c0 := cs) (s := s) (A1 := Ac) (c1 := cc) (c := c) (by simp) (by simp) HF2.out).mono ?_); rintro e w6 ⟨Ax, cx, rfl, hE6⟩)
  have HE6 := Lib.hid hE6
  clear hE6
  go_upto_region 9 with (go_at_call 42; (with_reducible refine (nearest_E HE6.out (A0 := As) (c0 := cs) (s := s) (A1 := Ac) (c1 := cc) (c := c) (by simp) (by simp) HF3.out).mono ?_); rintro e w7 ⟨Ay, cy, rfl, hE7⟩)
  have HE7 := Lib.hid hE7
  clear hE7
  go_upto_region 10 with (go_at_call 37; (with_reducible refine (foresee_E HE7.out (A0 := As) (c0 := cs) (s := s) (A1 := Ac) (c1 := cc) (c := c) (by simp) (by simp) HF4.out).mono ?_); rintro e w8 ⟨Az, cz, rfl, hE8⟩)
  have HE8 := Lib.hid hE8
  clear hE8
  go_upto_region 13 with (go_at_call 16; (with_reducible refine (cost_E HE8.out (A0 := As) (c0 := cs) (s := s) (A1 := Ac) (c1 := cc) (c := c) (by simp) (by simp) (A2 := Ax) (c2 := cx) (l := X) (by simp) HC2.out).mono ?_); rintro e w9 ⟨rfl, hE9⟩)
  have HE9 := Lib.hid hE9
  clear hE9
  go_upto_region 14 with (go_at_call 16; (with_reducible refine (cost_E HE9.out (A0 := As) (c0 := cs) (s := s) (A1 := Ac) (c1 := cc) (c := c) (by simp) (by simp) (A2 := Ay) (c2 := cy) (l := Y) (by simp) HC3.out).mono ?_); rintro e w10 ⟨rfl, hE10⟩)
  have HE10 := Lib.hid hE10
  clear hE10
  go_upto_region 15 with (go_at_call 16; (with_reducible refine (cost_E HE10.out (A0 := As) (c0 := cs) (s := s) (A1 := Ac) (c1 := cc) (c := c) (by simp) (by simp) (A2 := Az) (c2 := cz) (l := Z) (by simp) HC4.out).mono ?_); rintro e w11 ⟨rfl, hE11⟩)
  have HE11 := Lib.hid hE11
  clear hE11
  go_upto_region 16 with (first | (go_at_call 33; (with_reducible refine (served_E HE11.out (A := A2) (c := c2) (l := l2) (A1 := Ac) (c1 := cc) (cs := c) (by simp) (by simp) HWE.out).mono ?_); rintro e w12 ⟨Aw, cw, rfl, hE12⟩) | (go_at_call 16; (with_reducible refine (cost_E hE12 (A0 := As) (c0 := cs) (s := s) (A1 := Ac) (c1 := cc) (c := c) (by simp) (by simp) (A2 := Aw) (c2 := cw) (l := Wl) (by simp) HC5.out).mono ?_); rintro e w13 ⟨rfl, hE13⟩))
  have HE13 := Lib.hid hE13
  clear hE12 hE13
  go_wp2_with (go_at_call 19; (with_reducible refine (awake_E HE13.out).mono ?_); rintro e w14 ⟨rfl, hE14⟩)
  go_ret
  exact ⟨rfl, hE14.bel⟩
end Go.Proofs.Ytakbijpcfnipoaa.L
