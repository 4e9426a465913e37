/- What the statements of this seat lean on: the functions that they reach, walked. -/
import Derived.Test.YtakbijpcfnipoaaZg7
set_option linter.unusedSimpArgs false
set_option linter.unusedVariables false

namespace Go.Proofs.Ytakbijpcfnipoaa.PA
open Go.RowKit Go.Proofs.YtakbijpcfnipoaaW.PrintWords Go.Proofs.YtakbijpcfnipoaaW.PrintLast Go.Proofs.YtakbijpcfnipoaaW.PrintMore
attribute [local go_sem] max2_int min2_int max_two min_two max_three min_three max_four min_four
set_option linter.unusedVariables false
set_option linter.unusedSimpArgs false
def turndownref07_First.l0 : Nat → List (List Int) → List Int → List Int → Int → Option (List Int)
 | 0, _, _, _, _ => none
 | k + 1, x0, x1, x5, x6 => if x6 < (x0.length : Int) then (if 0 ≤ x6 then ((turndownref07_Code.f k (rd_L1 x0 x6)).bind fun t276 => ((turndownref07_Distance.f k x1 (rd_L1 x0 x6)).bind fun t278 => (if 0 ≤ t276 then (if t276 < (x5.length : Int) then (turndownref07_First.l0 k x0 x1 (x5.set (t276 : Int).toNat t278) (wrap64 (x6 + 1))) else (none)) else (none)))) else (none)) else (some x5)
def turndownref07_First.f (k : Nat) (l0 : List (List Int)) (l1 : List Int) : Option (List Int) := if (29791 : Int) ≤ 35184372088832 then (turndownref07_First.l0 k l0 l1 (List.replicate 29791 0) 0) else (none)
set_option maxHeartbeats 8000000 in
set_option maxRecDepth 100000 in
theorem turndownref07_First.calls (k : Nat) (A0 : Option Addr) (c0 : Nat) (l0 : List (List Int)) (A1 : Option Addr) (c1 : Nat) (l1 : List Int) (r : List Int) (w : World) (hr0 : Kd.C (Kd.slice 3 (Kd.int .i64)) w A0 l0.length l0) (hc0 : l0.length ≤ c0) (hr1 : Kd.C (Kd.int .i64) w A1 l1.length l1) (hc1 : l1.length ≤ c1) (h : turndownref07_First.f k l0 l1 = some r) :
  Calls Try.prog 54 #[.slice A0 l0.length c0, .slice A1 l1.length c1] w fun e w' => ∃ v0_ : Value, e = .returned (v0_) ∧ Kd.R (Kd.int .i64) 3 w' w.heap.size (fun _ => True) v0_ r ∧ Below w.heap.size w w' := by
 have HR0 := Aside0.mk hr0
 have HC0 := Aside0.mk hc0
 clear hr0 hc0
 have HR1 := Aside0.mk hr1
 have HC1 := Aside0.mk hc1
 clear hr1 hc1
 have HB := Aside0.mk (Below.refl w.heap.size w)
 have H : (if (29791 : Int) ≤ 35184372088832 then (turndownref07_First.l0 k l0 l1 (List.replicate 29791 0) 0) else (none)) = some r := h
 clear h
 by_cases c3 : (29791 : Int) ≤ 35184372088832
 ·
  rw [if_pos c3] at H
  have c3b0 := eq_true c3
  have c3b1 : decide ((29791 : Int) ≤ 35184372088832) = true := decide_eq_true c3
  clear c3
  obtain ⟨y272, hy272⟩ : ∃ y_ : List Int, y_ = (List.replicate 29791 0) := ⟨_, rfl⟩
  replace H : (turndownref07_First.l0 k l0 l1 y272 0) = some r := by first | (rw [hy272]; with_reducible exact H) | (have H2_ := (Option.bind_some _ _).symm.trans H; rw [hy272]; with_reducible exact H2_) | (have H2_ := (Option.bind_some _ _).symm.trans H; with_reducible exact H2_) | with_reducible exact H | (rw [hy272]; exact H) | exact H
  have Ny272 := Aside0.mk hy272
  clear hy272
  have H' := Aside0.mk H
  clear H
  go_enter Try.func54, Try.ntmps54
  go_wp2_with (first | ((with_reducible refine gate_dst (N := 8) rfl ?_); refine Kd.R_make (Kd.int .i64) _ 3 rfl (N := 8) rfl 22 _ _ rfl 29791 rfl rfl Try.underlying22 (.int .i64 0) 8 info3 rfl (by decide) (by omega) 0 (ok := fun _ => True) (okp := fun _ => True) rfl (fun _ hk => hk) trivial (by omega) (by omega) (Below.refl _ _) (Nat.le_refl _) ?_; intro v273 w4 ho5 hb hg_ hnew_; clear hg_ hnew_; (first | rw [← Ny272.out] at ho5 | (simp only [Int.reduceToNat] at ho5; rw [← Ny272.out] at ho5)); have n0_ := Aside0.mk (Kd.R_lower ho5 (below_size (by repeat (first | (with_reducible first | exact HB.out | apply below_alloc | apply pw_below_drewN | apply below_drew1) | exact HB.out)))); have n1_ := Aside0.mk (below_step (by repeat (first | (with_reducible first | exact HB.out | apply below_alloc | apply pw_below_drewN | apply below_drew1) | exact HB.out)) hb); clear HB; have HO274 := n0_; have HB := n1_; clear n0_ n1_; clear hb ho5))
  go_loopg [6] k (fun kq v6 w' => ∃ (x5_1 : List Int) (x6_1 : Int), v6 = .int .i64 x6_1 ∧ Aside0 (turndownref07_First.l0 kq l0 l1 x5_1 x6_1 = some r) ∧ Aside0 (kq ≤ k) ∧ Aside0 (Kd.R (Kd.int .i64) 3 w' w.heap.size (fun _ => True) v273 x5_1) ∧ Aside0 (Below w.heap.size w w'))
  case atStart => exact ⟨(y272), (0), (by first | rfl | (simp; done) | (simp [*]; done)), H', ⟨Nat.le_refl _⟩, ⟨by (with_reducible repeat (first | apply Kd.R_alloc | apply Kd.R_drewN | apply Kd.R_drew)); exact HO274.out⟩, ⟨by repeat (first | (with_reducible first | exact HB.out | apply below_alloc | apply pw_below_drewN | apply below_drew1) | exact HB.out)⟩⟩
  case round =>
   clear H'
   try clear c1
   try clear p2
   try clear c3
   try clear c3b0
   try clear c3b1
   try clear c5
   obtain ⟨x5_1, x6_1, rfl, HA, HK1, HO_5, HB⟩ := hrel
   cases gk with
   | zero => exact absurd HA.out (by simp [turndownref07_First.l0])
   | succ k1 =>
    have H := HA.out
    clear HA
    simp only [turndownref07_First.l0] at H
    by_cases c6 : x6_1 < (l0.length : Int)
    ·
     rw [if_pos c6] at H
     have c6b0 : decide (x6_1 < (l0.length : Int)) = true := decide_eq_true c6
     clear c6
     by_cases c7 : 0 ≤ x6_1
     ·
      rw [if_pos c7] at H
      have c7b0 : decide (0 ≤ x6_1) = true := decide_eq_true c7
      clear c7
      replace H := Option.bind_eq_some_iff.mp H
      obtain ⟨t276, A80, H⟩ := H
      replace H : ((turndownref07_Distance.f k1 l1 (rd_L1 l0 x6_1)).bind fun t278 => (if 0 ≤ t276 then (if t276 < (x5_1.length : Int) then (turndownref07_First.l0 k1 l0 l1 (x5_1.set (t276 : Int).toNat t278) (wrap64 (x6_1 + 1))) else (none)) else (none))) = some r := H
      have A8 := Aside0.mk A80
      clear A80
      replace H := Option.bind_eq_some_iff.mp H
      obtain ⟨t278, A90, H⟩ := H
      replace H : (if 0 ≤ t276 then (if t276 < (x5_1.length : Int) then (turndownref07_First.l0 k1 l0 l1 (x5_1.set (t276 : Int).toNat t278) (wrap64 (x6_1 + 1))) else (none)) else (none)) = some r := H
      have A9 := Aside0.mk A90
      clear A90
      by_cases c10 : 0 ≤ t276
      ·
       rw [if_pos c10] at H
       have c10b0 : decide (0 ≤ t276) = true := decide_eq_true c10
       clear c10
       by_cases c11 : t276 < (x5_1.length : Int)
       ·
        rw [if_pos c11] at H
        have c11b0 : decide (t276 < (x5_1.length : Int)) = true := decide_eq_true c11
        clear c11
        obtain ⟨y279, hy279⟩ : ∃ y_ : List Int, y_ = (x5_1.set (t276 : Int).toNat t278) := ⟨_, rfl⟩
        replace H : (turndownref07_First.l0 k1 l0 l1 y279 (wrap64 (x6_1 + 1))) = some r := by first | (rw [hy279]; with_reducible exact H) | (have H2_ := (Option.bind_some _ _).symm.trans H; rw [hy279]; with_reducible exact H2_) | (have H2_ := (Option.bind_some _ _).symm.trans H; with_reducible exact H2_) | with_reducible exact H | (rw [hy279]; exact H) | exact H
        have Ny279 := Aside0.mk hy279
        clear hy279
        have H' := Aside0.mk H
        clear H
        have p275 : 0 ≤ (x6_1 : Int) := of_decide_eq_true (by first | (with_reducible assumption) | assumption)
        have q275 : x6_1 < (l0.length : Int) := of_decide_eq_true (by first | (with_reducible assumption) | assumption)
        obtain ⟨ad275, A275_0, c275_0, e275, hx275_0, hl275_0, hi275_0⟩ := at_L1 HR0.out x6_1 p275 q275
        cases e275
        have hw275_0 := hx275_0; replace hx275_0 := (HB.out.cell (World.block_lt_of_cell? w _ hx275_0)).trans hx275_0
        have HR275_0 := Aside0.mk hi275_0
        have HC275_0 := Aside0.mk hl275_0
        clear hi275_0 hl275_0
        replace p275 := eq_true p275
        replace q275 := eq_true q275
        go_wp2_with (first | ((with_reducible refine gate_callee (f := 27) rfl ?_); refine goesL_ (some 19) rfl rfl Try.func27 (by kernel_rfl) rfl #[.slice A275_0 (rd_L1 l0 x6_1).length c275_0] rfl (by (try simp only [List.map_toArray, List.map_cons, List.map_nil]); first | done | rfl | (simp only [List.length_drop, List.length_take]; rfl)) ?_; (with_reducible refine (turndownref07_Code.calls k1 _ _ (rd_L1 l0 x6_1) t276 _ ?side1 ?side2 A8.out).mono ?_); (case side1 => repeat (first | exact (Kd.C_below HR275_0.out HB.out) | (with_reducible refine Kd.C_alloc ?_ _) | (with_reducible refine Kd.C_drewN ?_ _) | (with_reducible refine Kd.C_drew ?_))); (case side2 => exact HC275_0.out); rintro e w' ⟨rfl, ⟨nd, rfl⟩⟩; refine ⟨_, rfl, ?_⟩; (try (rw [drewN_self wr]; generalize hq_ : World.drewN wr _ = wr; have n0_ : Aside0 (Kd.R (Kd.int .i64) 3 wr w.heap.size (fun _ => True) v273 x5_1) := ⟨by rw [← hq_]; exact (by (with_reducible repeat (first | apply Kd.R_alloc | apply Kd.R_drewN | apply Kd.R_drew)); exact HO_5.out)⟩; have n1_ : Aside0 (Below w.heap.size w wr) := ⟨by rw [← hq_]; exact (by repeat (first | (with_reducible first | exact HB.out | apply below_alloc | apply pw_below_drewN | apply below_drew1) | exact HB.out))⟩; clear HO_5 HB hq_; have HO_5 := n0_; have HB := n1_; clear n0_ n1_)); have p277 : 0 ≤ (x6_1 : Int) := of_decide_eq_true (by first | (with_reducible assumption) | assumption); have q277 : x6_1 < (l0.length : Int) := of_decide_eq_true (by first | (with_reducible assumption) | assumption); obtain ⟨ad277, A277_0, c277_0, e277, hx277_0, hl277_0, hi277_0⟩ := at_L1 HR0.out x6_1 p277 q277; obtain rfl : ad275 = ad277 := (by injection e277); have hw277_0 := hx277_0; replace hx277_0 := (HB.out.cell (World.block_lt_of_cell? w _ hx277_0)).trans hx277_0; have HR277_0 := Aside0.mk hi277_0; have HC277_0 := Aside0.mk hl277_0; clear hi277_0 hl277_0; replace p277 := eq_true p277; replace q277 := eq_true q277; have ea_ := Option.some.inj (hw275_0.symm.trans hw277_0); injection ea_ with ea_ en_ ec_; subst ea_; subst ec_; clear en_) | ((with_reducible refine gate_callee (f := 35) rfl ?_); refine goesL_ (some 27) rfl rfl Try.func35 (by kernel_rfl) rfl #[.slice A1 l1.length c1, .slice A275_0 (rd_L1 l0 x6_1).length c275_0] rfl (by (try simp only [List.map_toArray, List.map_cons, List.map_nil]); first | done | rfl | (simp only [List.length_drop, List.length_take]; rfl)) ?_; (with_reducible refine (turndownref07_Distance.calls k1 _ _ l1 _ _ (rd_L1 l0 x6_1) t278 _ ?side1 ?side2 ?side3 ?side4 A9.out).mono ?_); (case side1 => repeat (first | exact (Kd.C_below HR1.out HB.out) | (with_reducible refine Kd.C_alloc ?_ _) | (with_reducible refine Kd.C_drewN ?_ _) | (with_reducible refine Kd.C_drew ?_))); (case side2 => exact HC1.out); (case side3 => repeat (first | exact (Kd.C_below HR277_0.out HB.out) | (with_reducible refine Kd.C_alloc ?_ _) | (with_reducible refine Kd.C_drewN ?_ _) | (with_reducible refine Kd.C_drew ?_))); (case side4 => exact HC277_0.out); rintro e w13 ⟨rfl, hb⟩; refine ⟨_, rfl, ?_⟩; have n0_ := Aside0.mk (Kd.R_below (by (with_reducible repeat (first | apply Kd.R_alloc | apply Kd.R_drewN | apply Kd.R_drew)); exact HO_5.out) hb); have n1_ := Aside0.mk (below_step (by repeat (first | (with_reducible first | exact HB.out | apply below_alloc | apply pw_below_drewN | apply below_drew1) | exact HB.out)) hb); clear HO_5; clear HB; have HO_5 := n0_; have HB := n1_; clear n0_ n1_; (try clear hb); (try clear hb2); (try clear hk); (try clear hi); have p12 : 0 ≤ (t276 : Int) := of_decide_eq_true (by first | (with_reducible assumption) | assumption); have q12 : (t276 : Int) < ((x5_1.length : Int) : Int) := of_decide_eq_true (by first | (with_reducible assumption) | assumption); obtain ⟨go12, co12, eo12, gb12, gl12, cl12, HG12⟩ := Kd.R_form HO_5.out (by omega); (first | cases eo12 | (injection eo12 with ea_ en_ ec_; (first | subst ea_ | (injection ea_ with ea_; subst ea_)); subst ec_; clear en_)); have GB12 := Aside0.mk gb12; have GG12 := Aside0.mk HG12; clear gb12 gl12 HG12; obtain ⟨hx12_0, hf12_0⟩ := Kd.R_celln 0 HO_5.out (t276 : Int) p12 q12; replace p12 := eq_true p12; replace q12 := eq_true q12; obtain ⟨hy14_, hz14_⟩ := Kd.R_celln 0 HO_5.out (t276 : Int) (of_decide_eq_true (by first | (with_reducible assumption) | assumption)) (of_decide_eq_true (by first | (with_reducible assumption) | assumption)); have HP14 := Kd.R_putg HO_5.out (t276 : Int) t278) | ((with_reducible refine gate_store (t := 3) (p := 28) rfl ?_); refine store_event (t := 3) (p := 28) (v := ?vo_w15) (w1 := (w13.setCell ⟨go12, (t276 : Int).toNat, none⟩ (.int .i64 t278))) ?hg ?ho ?hn ?hr ?_; (case ho => rfl); (case hg => rfl); (case hn => rfl); (case hr => first | (go_simp; done) | (go_simp; rfl)); intro w15 hw; have hg : w13.grownBy w15 (some go12) := (by rw [hw]; exact HP14.2); have hp_ : Kd.R (Kd.int .i64) 3 w15 w.heap.size (fun _ => True) (.slice (some ⟨go12, 0, none⟩) x5_1.length co12) y279 := (by rw [hw, Ny279.out]; exact HP14.1); clear HP14; have n0_ := Aside0.mk (hp_); have n1_ := Aside0.mk ((by rw [hw]; exact below_set (HB.out) GB12.out : Below w.heap.size w w15)); clear HO_5; clear HB; have HO_5 := n0_; have HB := n1_; clear n0_ n1_; clear hg hw hp_))
        go_roundg k1
        case measure => have := HK1.out; omega
        case rel => exact ⟨(y279), (wrap64 (x6_1 + 1)), (by first | rfl | (simp; done) | (simp [*]; done)), H', ⟨by have := HK1.out; omega⟩, ⟨by (with_reducible repeat (first | apply Kd.R_alloc | apply Kd.R_drewN | apply Kd.R_drew)); exact HO_5.out⟩, ⟨by repeat (first | (with_reducible first | exact HB.out | apply below_alloc | apply pw_below_drewN | apply below_drew1) | exact HB.out)⟩⟩
       ·
        rw [if_neg c11] at H
        exact absurd H (by simp)
      ·
       rw [if_neg c10] at H
       exact absurd H (by simp)
     ·
      rw [if_neg c7] at H
      exact absurd H (by simp)
    ·
     rw [if_neg c6] at H
     have c6b0 : decide (x6_1 < (l0.length : Int)) = false := decide_eq_false c6
     clear c6
     obtain rfl := Option.some.inj H
     go_wp2
     go_ret
     exact ⟨_, by first | rfl | (simp [errW_none, errW_some] <;> rfl) | (simp [*, errW_none, errW_some] <;> rfl), by (with_reducible repeat (first | apply Kd.R_alloc | apply Kd.R_drewN | apply Kd.R_drew)); exact HO_5.out, by repeat (first | (with_reducible first | exact HB.out | apply below_alloc | apply pw_below_drewN | apply below_drew1) | exact HB.out)⟩
 ·
  rw [if_neg c3] at H
  exact absurd H (by simp)
end Go.Proofs.Ytakbijpcfnipoaa.PA

namespace Go.Proofs.Ytakbijpcfnipoaa.PA
open Go.RowKit Go.Proofs.YtakbijpcfnipoaaW.PrintWords Go.Proofs.YtakbijpcfnipoaaW.PrintLast Go.Proofs.YtakbijpcfnipoaaW.PrintMore
attribute [local go_sem] max2_int min2_int max_two min_two max_three min_three max_four min_four
set_option linter.unusedVariables false
set_option linter.unusedSimpArgs false
def turndownref07_insert.l0 : Nat → List Int → Int → Int → Option (List Int)
 | 0, _, _, _ => none
 | k + 1, x0, x1, x5 => if x5 < (x0.length : Int) then (if 0 ≤ x5 then (if (rd x0 x5) ≤ x1 then (turndownref07_insert.l0 k x0 x1 (wrap64 (x5 + 1))) else (if x5 ≤ (x0.length : Int) then (if ([] : List Int).length + (x0.take (x5 : Int).toNat).length < 17592186044416 then ((some (([] : List Int) ++ (x0.take (x5 : Int).toNat) : List Int)).bind fun y282 => (if y282.length < 17592186044416 then ((some (y282 ++ [x1] : List Int)).bind fun y285 => (if y285.length + (x0.drop (x5 : Int).toNat).length < 17592186044416 then (some (y285 ++ (x0.drop (x5 : Int).toNat))) else (none))) else (none))) else (none)) else (none))) else (none)) else (if 0 ≤ x5 then (if x5 ≤ (x0.length : Int) then (if ([] : List Int).length + (x0.take (x5 : Int).toNat).length < 17592186044416 then ((some (([] : List Int) ++ (x0.take (x5 : Int).toNat) : List Int)).bind fun y293 => (if y293.length < 17592186044416 then ((some (y293 ++ [x1] : List Int)).bind fun y296 => (if y296.length + (x0.drop (x5 : Int).toNat).length < 17592186044416 then (some (y296 ++ (x0.drop (x5 : Int).toNat))) else (none))) else (none))) else (none)) else (none)) else (none))
def turndownref07_insert.f (k : Nat) (l0 : List Int) (a1 : Int) : Option (List Int) := turndownref07_insert.l0 k l0 a1 0
set_option maxHeartbeats 8000000 in
set_option maxRecDepth 100000 in
theorem turndownref07_insert.calls (k : Nat) (A0 : Option Addr) (c0 : Nat) (l0 : List Int) (a1 : Int) (r : List Int) (w : World) (hr0 : Kd.C (Kd.int .i64) w A0 l0.length l0) (hc0 : l0.length ≤ c0) (h : turndownref07_insert.f k l0 a1 = some r) :
  Calls Try.prog 81 #[.slice A0 l0.length c0, .int .i64 a1] w fun e w' => ∃ v0_ : Value, e = .returned (v0_) ∧ Kd.R (Kd.int .i64) 3 w' w.heap.size (fun _ => True) v0_ r ∧ Below w.heap.size w w' := by
 have HR0 := Aside0.mk hr0
 have HC0 := Aside0.mk hc0
 clear hr0 hc0
 have HB := Aside0.mk (Below.refl w.heap.size w)
 have H : (turndownref07_insert.l0 k l0 a1 0) = some r := h
 clear h
 have H' := Aside0.mk H
 clear H
 go_enter Try.func81, Try.ntmps81
 go_wp2
 go_loopg [5] k (fun kq v5 w' => ∃ (x5_1 : Int), v5 = .int .i64 x5_1 ∧ Aside0 (turndownref07_insert.l0 kq l0 a1 x5_1 = some r) ∧ Aside0 (kq ≤ k) ∧ Aside0 (Below w.heap.size w w'))
 case atStart => exact ⟨(0), (by first | rfl | (simp; done) | (simp [*]; done)), H', ⟨Nat.le_refl _⟩, ⟨by repeat (first | (with_reducible first | exact HB.out | apply below_alloc | apply pw_below_drewN | apply below_drew1) | exact HB.out)⟩⟩
 case round =>
  clear H'
  try clear p2
  obtain ⟨x5_1, rfl, HA, HK1, HB⟩ := hrel
  cases gk with
  | zero => exact absurd HA.out (by simp [turndownref07_insert.l0])
  | succ k1 =>
   have H := HA.out
   clear HA
   simp only [turndownref07_insert.l0] at H
   by_cases c3 : x5_1 < (l0.length : Int)
   ·
    rw [if_pos c3] at H
    have c3b0 : decide (x5_1 < (l0.length : Int)) = true := decide_eq_true c3
    clear c3
    by_cases c4 : 0 ≤ x5_1
    ·
     rw [if_pos c4] at H
     have c4b0 : decide (0 ≤ x5_1) = true := decide_eq_true c4
     clear c4
     by_cases c5 : (rd l0 x5_1) ≤ a1
     ·
      rw [if_pos c5] at H
      have c5b0 : decide ((rd l0 x5_1) ≤ a1) = true := decide_eq_true c5
      clear c5
      have H' := Aside0.mk H
      clear H
      have p280 : 0 ≤ (x5_1 : Int) := of_decide_eq_true (by first | (with_reducible assumption) | assumption)
      have q280 : x5_1 < (l0.length : Int) := of_decide_eq_true (by first | (with_reducible assumption) | assumption)
      obtain ⟨ad280, e280, hx280_0⟩ := Kd.at_int HR0.out x5_1 p280 q280
      cases e280
      replace hx280_0 := (HB.out.cell (World.block_lt_of_cell? w _ hx280_0)).trans hx280_0
      replace p280 := eq_true p280
      replace q280 := eq_true q280
      go_wp2
      go_roundg k1
      case measure => have := HK1.out; omega
      case rel => exact ⟨(wrap64 (x5_1 + 1)), (by first | rfl | (simp; done) | (simp [*]; done)), H', ⟨by have := HK1.out; omega⟩, ⟨by repeat (first | (with_reducible first | exact HB.out | apply below_alloc | apply pw_below_drewN | apply below_drew1) | exact HB.out)⟩⟩
     ·
      rw [if_neg c5] at H
      have c5b0 : decide ((rd l0 x5_1) ≤ a1) = false := decide_eq_false c5
      clear c5
      have c6b0 := eq_true (of_decide_eq_true (by first | (with_reducible assumption) | assumption) : 0 ≤ x5_1)
      by_cases c7 : x5_1 ≤ (l0.length : Int)
      ·
       rw [if_pos c7] at H
       have c7b0 := eq_true c7
       have c7b1 : decide (x5_1 ≤ (l0.length : Int)) = true := decide_eq_true c7
       clear c7
       by_cases c8 : ([] : List Int).length + (l0.take (x5_1 : Int).toNat).length < 17592186044416
       ·
        rw [if_pos c8] at H
        have LMc8 := Aside0.mk c8
        clear c8
        obtain ⟨y282, hy282⟩ : ∃ y_ : List Int, y_ = (([] : List Int) ++ (l0.take (x5_1 : Int).toNat)) := ⟨_, rfl⟩
        replace H : (if y282.length < 17592186044416 then ((some (y282 ++ [a1] : List Int)).bind fun y285 => (if y285.length + (l0.drop (x5_1 : Int).toNat).length < 17592186044416 then (some (y285 ++ (l0.drop (x5_1 : Int).toNat))) else (none))) else (none)) = some r := by first | (rw [hy282]; with_reducible exact H) | (have H2_ := (Option.bind_some _ _).symm.trans H; rw [hy282]; with_reducible exact H2_) | (have H2_ := (Option.bind_some _ _).symm.trans H; with_reducible exact H2_) | with_reducible exact H | (rw [hy282]; exact H) | exact H
        have Ny282 := Aside0.mk hy282
        clear hy282
        by_cases c9 : y282.length < 17592186044416
        ·
         rw [if_pos c9] at H
         have LMc9 := Aside0.mk c9
         clear c9
         obtain ⟨y285, hy285⟩ : ∃ y_ : List Int, y_ = (y282 ++ [a1]) := ⟨_, rfl⟩
         replace H : (if y285.length + (l0.drop (x5_1 : Int).toNat).length < 17592186044416 then (some (y285 ++ (l0.drop (x5_1 : Int).toNat))) else (none)) = some r := by first | (rw [hy285]; with_reducible exact H) | (have H2_ := (Option.bind_some _ _).symm.trans H; rw [hy285]; with_reducible exact H2_) | (have H2_ := (Option.bind_some _ _).symm.trans H; with_reducible exact H2_) | with_reducible exact H | (rw [hy285]; exact H) | exact H
         have Ny285 := Aside0.mk hy285
         clear hy285
         have c10b0 := eq_true (of_decide_eq_true (by first | (with_reducible assumption) | assumption) : 0 ≤ x5_1)
         have c11b0 := eq_true (of_decide_eq_true (by first | (with_reducible assumption) | assumption) : x5_1 ≤ (l0.length : Int))
         by_cases c12 : y285.length + (l0.drop (x5_1 : Int).toNat).length < 17592186044416
         ·
          rw [if_pos c12] at H
          have LMc12 := Aside0.mk c12
          clear c12
          obtain ⟨y289, hy289⟩ : ∃ y_ : List Int, y_ = (y285 ++ (l0.drop (x5_1 : Int).toNat)) := ⟨_, rfl⟩
          replace H : (some y289) = some r := by first | (rw [hy289]; with_reducible exact H) | (have H2_ := (Option.bind_some _ _).symm.trans H; rw [hy289]; with_reducible exact H2_) | (have H2_ := (Option.bind_some _ _).symm.trans H; with_reducible exact H2_) | with_reducible exact H | (rw [hy289]; exact H) | exact H
          have Ny289 := Aside0.mk hy289
          clear hy289
          obtain rfl := Option.some.inj H
          have p280 : 0 ≤ (x5_1 : Int) := of_decide_eq_true (by first | (with_reducible assumption) | assumption)
          have q280 : x5_1 < (l0.length : Int) := of_decide_eq_true (by first | (with_reducible assumption) | assumption)
          obtain ⟨ad280, e280, hx280_0⟩ := Kd.at_int HR0.out x5_1 p280 q280
          cases e280
          replace hx280_0 := (HB.out.cell (World.block_lt_of_cell? w _ hx280_0)).trans hx280_0
          replace p280 := eq_true p280
          replace q280 := eq_true q280
          obtain ⟨i013, hi013, _, hsz13, _⟩ := info_parts info3
          obtain ⟨hcut13, hA13, hC13⟩ := print_take_of (P := Try.prog) (Value.int .i64) 0 22 3 .i64 Try.underlying22 hi013 hsz13 (some ad280) c0 l0 x5_1 (of_decide_eq_true (by first | (with_reducible assumption) | assumption)) (of_decide_eq_true (by first | (with_reducible assumption) | assumption)) HC0.out
          have HR281 := Aside0.mk (Kd.C_of_reads (h1 := fun _ => rfl) (hA13 _ (Kd.reads_of_C HR0.out)))
          have HC281 := Aside0.mk hC13
          clear hA13 hC13 hi013 hsz13
          go_wp2_with (first | ((with_reducible refine gate_builtin (b := .append) (xs := #[.tmp 21, .tmp 24]) rfl ?_); at_builtin; refine Kd.R_append_rows (Kd.int .i64) (w0 := w) w.heap.size rfl (.tmp 21) (.tmp 24) 22 3 (.int .i64 0) 8 rfl Try.underlying22 info3 rfl (by decide) (by omega) (.slice none 0 0) ([] : List Int) (l0.take (x5_1 : Int).toNat) _ _ _ (fun _ => True) (fun _ => False) rfl rfl ?aO ?aR (fun _ _ h => h) (fun _ h => h.elim) ?aF ?aB ?aS ?aL ?_; (case aR => first | (have q_ := (Kd.C_below HR281.out HB.out); rw [show (l0.take (x5_1 : Int).toNat).length = x5_1.toNat from (by rw [List.length_take]; have h_ : (x5_1 : Int) ≤ (l0.length : Int) := of_decide_eq_true (by first | (with_reducible assumption) | assumption); omega)] at q_; repeat (first | exact q_ | (with_reducible refine Kd.C_alloc ?_ _) | (with_reducible refine Kd.C_drewN ?_ _) | (with_reducible refine Kd.C_drew ?_))) | (rw [← show (l0.take (x5_1 : Int).toNat).length = x5_1.toNat from (by rw [List.length_take]; have h_ : (x5_1 : Int) ≤ (l0.length : Int) := of_decide_eq_true (by first | (with_reducible assumption) | assumption); omega)]; repeat (first | exact (Kd.C_below HR281.out HB.out) | (with_reducible refine Kd.C_alloc ?_ _) | (with_reducible refine Kd.C_drewN ?_ _) | (with_reducible refine Kd.C_drew ?_))) | (repeat (first | exact (Kd.C_below HR281.out HB.out) | (with_reducible refine Kd.C_alloc ?_ _) | (with_reducible refine Kd.C_drewN ?_ _) | (with_reducible refine Kd.C_drew ?_)))); (case aB => exact (by repeat (first | (with_reducible first | exact HB.out | apply below_alloc | apply pw_below_drewN | apply below_drew1) | exact HB.out))); (case aF => exact (fun _ _ => trivial)); (case aO => exact ((Kd.R_nil _ _ _ _ (fun _ => True)))); (case aS => exact (below_size (by repeat (first | (with_reducible first | exact HB.out | apply below_alloc | apply pw_below_drewN | apply below_drew1) | exact HB.out)))); (case aL => have := LMc8.out; have hlx_ := (show (l0.take (x5_1 : Int).toNat).length = x5_1.toNat from (by rw [List.length_take]; have h_ : (x5_1 : Int) ≤ (l0.length : Int) := of_decide_eq_true (by first | (with_reducible assumption) | assumption); omega)); omega); intro v283 w14 ho hb hg hat; rw [← Ny282.out] at ho; have n0_ := Aside0.mk (hb); have n1_ := Aside0.mk (ho); clear HB; have HB := n0_; have HO284 := n1_; clear n0_ n1_; clear ho hb hg hat) | ((with_reducible refine gate_builtin (b := .append) (xs := #[.tmp 26, .tmp 28]) rfl ?_); at_builtin; refine Kd.R_append (Kd.int .i64) (w0 := w) w.heap.size rfl (.tmp 26) (.tmp 28) 22 3 (.int .i64 0) 8 rfl Try.underlying22 info3 rfl (by decide) (by omega) v283 y282 a1 [.int .i64 a1] (fun _ => True) (fun _ => False) rfl rfl ?aP (fun _ hk => hk.elim) ?aF ?aO ?aB ?aS ?aL ?_; (case aP => exact rfl); (case aB => exact (by repeat (first | (with_reducible first | exact HB.out | apply below_alloc | apply pw_below_drewN | apply below_drew1) | exact HB.out))); (case aF => exact (fun _ _ => trivial)); (case aO => exact (by (with_reducible repeat (first | apply Kd.R_alloc | apply Kd.R_drewN | apply Kd.R_drew)); exact HO284.out)); (case aS => exact (below_size (by repeat (first | (with_reducible first | exact HB.out | apply below_alloc | apply pw_below_drewN | apply below_drew1) | exact HB.out)))); (case aL => have := LMc9.out; omega); intro v286 w15 ho hb hg hat; rw [← Ny285.out] at ho; have n0_ := Aside0.mk (hb); have n1_ := Aside0.mk (ho); clear HB; clear HO284; have HB := n0_; have HO287 := n1_; clear n0_ n1_; clear ho hb hg hat; obtain ⟨i016, hi016, _, hsz16, _⟩ := info_parts info3; obtain ⟨A16, hcut16, hA16, hC16⟩ := print_drop_of (P := Try.prog) (Value.int .i64) 0 22 3 .i64 Try.underlying22 hi016 hsz16 (some ad280) c0 l0 x5_1 (of_decide_eq_true (by first | (with_reducible assumption) | assumption)) (of_decide_eq_true (by first | (with_reducible assumption) | assumption)) HC0.out; have HR288 := Aside0.mk (Kd.C_of_reads (h1 := fun _ => rfl) (hA16 _ (Kd.reads_of_C HR0.out))); have HC288 := Aside0.mk hC16; clear hA16 hC16 hi016 hsz16) | ((with_reducible refine gate_builtin (b := .append) (xs := #[.tmp 30, .tmp 33]) rfl ?_); at_builtin; refine Kd.R_append_rows (Kd.int .i64) (w0 := w) w.heap.size rfl (.tmp 30) (.tmp 33) 22 3 (.int .i64 0) 8 rfl Try.underlying22 info3 rfl (by decide) (by omega) v286 y285 (l0.drop (x5_1 : Int).toNat) _ _ _ (fun _ => True) (fun _ => False) rfl rfl ?aO ?aR (fun _ _ h => h) (fun _ h => h.elim) ?aF ?aB ?aS ?aL ?_; (case aR => first | (rw [← show (l0.drop (x5_1 : Int).toNat).length = (l0.length - x5_1.toNat) from List.length_drop]; repeat (first | exact (Kd.C_below HR288.out HB.out) | (with_reducible refine Kd.C_alloc ?_ _) | (with_reducible refine Kd.C_drewN ?_ _) | (with_reducible refine Kd.C_drew ?_))) | (repeat (first | exact (Kd.C_below HR288.out HB.out) | (with_reducible refine Kd.C_alloc ?_ _) | (with_reducible refine Kd.C_drewN ?_ _) | (with_reducible refine Kd.C_drew ?_)))); (case aB => exact (by repeat (first | (with_reducible first | exact HB.out | apply below_alloc | apply pw_below_drewN | apply below_drew1) | exact HB.out))); (case aF => exact (fun _ _ => trivial)); (case aO => exact (by (with_reducible repeat (first | apply Kd.R_alloc | apply Kd.R_drewN | apply Kd.R_drew)); exact HO287.out)); (case aS => exact (below_size (by repeat (first | (with_reducible first | exact HB.out | apply below_alloc | apply pw_below_drewN | apply below_drew1) | exact HB.out)))); (case aL => have := LMc12.out; have hlx_ := (show (l0.drop (x5_1 : Int).toNat).length = (l0.length - x5_1.toNat) from List.length_drop); omega); intro v290 w17 ho hb hg hat; rw [← Ny289.out] at ho; have n0_ := Aside0.mk (hb); have n1_ := Aside0.mk (ho); clear HB; clear HO287; have HB := n0_; have HO291 := n1_; clear n0_ n1_; clear ho hb hg hat))
          go_ret
          exact ⟨_, by first | rfl | (simp [errW_none, errW_some] <;> rfl) | (simp [*, errW_none, errW_some] <;> rfl), by (with_reducible repeat (first | apply Kd.R_alloc | apply Kd.R_drewN | apply Kd.R_drew)); exact HO291.out, by repeat (first | (with_reducible first | exact HB.out | apply below_alloc | apply pw_below_drewN | apply below_drew1) | exact HB.out)⟩
         ·
          rw [if_neg c12] at H
          exact absurd H (by simp)
        ·
         rw [if_neg c9] at H
         exact absurd H (by simp)
       ·
        rw [if_neg c8] at H
        exact absurd H (by simp)
      ·
       rw [if_neg c7] at H
       exact absurd H (by simp)
    ·
     rw [if_neg c4] at H
     exact absurd H (by simp)
   ·
    rw [if_neg c3] at H
    have c3b0 : decide (x5_1 < (l0.length : Int)) = false := decide_eq_false c3
    clear c3
    by_cases c18 : 0 ≤ x5_1
    ·
     rw [if_pos c18] at H
     have c18b0 := eq_true c18
     have c18b1 : decide (0 ≤ x5_1) = true := decide_eq_true c18
     clear c18
     by_cases c19 : x5_1 ≤ (l0.length : Int)
     ·
      rw [if_pos c19] at H
      have c19b0 := eq_true c19
      have c19b1 : decide (x5_1 ≤ (l0.length : Int)) = true := decide_eq_true c19
      clear c19
      by_cases c20 : ([] : List Int).length + (l0.take (x5_1 : Int).toNat).length < 17592186044416
      ·
       rw [if_pos c20] at H
       have LMc20 := Aside0.mk c20
       clear c20
       obtain ⟨y293, hy293⟩ : ∃ y_ : List Int, y_ = (([] : List Int) ++ (l0.take (x5_1 : Int).toNat)) := ⟨_, rfl⟩
       replace H : (if y293.length < 17592186044416 then ((some (y293 ++ [a1] : List Int)).bind fun y296 => (if y296.length + (l0.drop (x5_1 : Int).toNat).length < 17592186044416 then (some (y296 ++ (l0.drop (x5_1 : Int).toNat))) else (none))) else (none)) = some r := by first | (rw [hy293]; with_reducible exact H) | (have H2_ := (Option.bind_some _ _).symm.trans H; rw [hy293]; with_reducible exact H2_) | (have H2_ := (Option.bind_some _ _).symm.trans H; with_reducible exact H2_) | with_reducible exact H | (rw [hy293]; exact H) | exact H
       have Ny293 := Aside0.mk hy293
       clear hy293
       by_cases c21 : y293.length < 17592186044416
       ·
        rw [if_pos c21] at H
        have LMc21 := Aside0.mk c21
        clear c21
        obtain ⟨y296, hy296⟩ : ∃ y_ : List Int, y_ = (y293 ++ [a1]) := ⟨_, rfl⟩
        replace H : (if y296.length + (l0.drop (x5_1 : Int).toNat).length < 17592186044416 then (some (y296 ++ (l0.drop (x5_1 : Int).toNat))) else (none)) = some r := by first | (rw [hy296]; with_reducible exact H) | (have H2_ := (Option.bind_some _ _).symm.trans H; rw [hy296]; with_reducible exact H2_) | (have H2_ := (Option.bind_some _ _).symm.trans H; with_reducible exact H2_) | with_reducible exact H | (rw [hy296]; exact H) | exact H
        have Ny296 := Aside0.mk hy296
        clear hy296
        have c22b0 := eq_true (of_decide_eq_true (by first | (with_reducible assumption) | assumption) : 0 ≤ x5_1)
        have c23b0 := eq_true (of_decide_eq_true (by first | (with_reducible assumption) | assumption) : x5_1 ≤ (l0.length : Int))
        by_cases c24 : y296.length + (l0.drop (x5_1 : Int).toNat).length < 17592186044416
        ·
         rw [if_pos c24] at H
         have LMc24 := Aside0.mk c24
         clear c24
         obtain ⟨y300, hy300⟩ : ∃ y_ : List Int, y_ = (y296 ++ (l0.drop (x5_1 : Int).toNat)) := ⟨_, rfl⟩
         replace H : (some y300) = some r := by first | (rw [hy300]; with_reducible exact H) | (have H2_ := (Option.bind_some _ _).symm.trans H; rw [hy300]; with_reducible exact H2_) | (have H2_ := (Option.bind_some _ _).symm.trans H; with_reducible exact H2_) | with_reducible exact H | (rw [hy300]; exact H) | exact H
         have Ny300 := Aside0.mk hy300
         clear hy300
         obtain rfl := Option.some.inj H
         obtain ⟨i025, hi025, _, hsz25, _⟩ := info_parts info3
         obtain ⟨hcut25, hA25, hC25⟩ := print_take_of (P := Try.prog) (Value.int .i64) 0 22 3 .i64 Try.underlying22 hi025 hsz25 A0 c0 l0 x5_1 (of_decide_eq_true (by first | (with_reducible assumption) | assumption)) (of_decide_eq_true (by first | (with_reducible assumption) | assumption)) HC0.out
         have HR292 := Aside0.mk (Kd.C_of_reads (h1 := fun _ => rfl) (hA25 _ (Kd.reads_of_C HR0.out)))
         have HC292 := Aside0.mk hC25
         clear hA25 hC25 hi025 hsz25
         go_wp2_with (first | ((with_reducible refine gate_builtin (b := .append) (xs := #[.tmp 21, .tmp 24]) rfl ?_); at_builtin; refine Kd.R_append_rows (Kd.int .i64) (w0 := w) w.heap.size rfl (.tmp 21) (.tmp 24) 22 3 (.int .i64 0) 8 rfl Try.underlying22 info3 rfl (by decide) (by omega) (.slice none 0 0) ([] : List Int) (l0.take (x5_1 : Int).toNat) _ _ _ (fun _ => True) (fun _ => False) rfl rfl ?aO ?aR (fun _ _ h => h) (fun _ h => h.elim) ?aF ?aB ?aS ?aL ?_; (case aR => first | (have q_ := (Kd.C_below HR292.out HB.out); rw [show (l0.take (x5_1 : Int).toNat).length = x5_1.toNat from (by rw [List.length_take]; have h_ : (x5_1 : Int) ≤ (l0.length : Int) := of_decide_eq_true (by first | (with_reducible assumption) | assumption); omega)] at q_; repeat (first | exact q_ | (with_reducible refine Kd.C_alloc ?_ _) | (with_reducible refine Kd.C_drewN ?_ _) | (with_reducible refine Kd.C_drew ?_))) | (rw [← show (l0.take (x5_1 : Int).toNat).length = x5_1.toNat from (by rw [List.length_take]; have h_ : (x5_1 : Int) ≤ (l0.length : Int) := of_decide_eq_true (by first | (with_reducible assumption) | assumption); omega)]; repeat (first | exact (Kd.C_below HR292.out HB.out) | (with_reducible refine Kd.C_alloc ?_ _) | (with_reducible refine Kd.C_drewN ?_ _) | (with_reducible refine Kd.C_drew ?_))) | (repeat (first | exact (Kd.C_below HR292.out HB.out) | (with_reducible refine Kd.C_alloc ?_ _) | (with_reducible refine Kd.C_drewN ?_ _) | (with_reducible refine Kd.C_drew ?_)))); (case aB => exact (by repeat (first | (with_reducible first | exact HB.out | apply below_alloc | apply pw_below_drewN | apply below_drew1) | exact HB.out))); (case aF => exact (fun _ _ => trivial)); (case aO => exact ((Kd.R_nil _ _ _ _ (fun _ => True)))); (case aS => exact (below_size (by repeat (first | (with_reducible first | exact HB.out | apply below_alloc | apply pw_below_drewN | apply below_drew1) | exact HB.out)))); (case aL => have := LMc20.out; have hlx_ := (show (l0.take (x5_1 : Int).toNat).length = x5_1.toNat from (by rw [List.length_take]; have h_ : (x5_1 : Int) ≤ (l0.length : Int) := of_decide_eq_true (by first | (with_reducible assumption) | assumption); omega)); omega); intro v294 w26 ho hb hg hat; rw [← Ny293.out] at ho; have n0_ := Aside0.mk (hb); have n1_ := Aside0.mk (ho); clear HB; have HB := n0_; have HO295 := n1_; clear n0_ n1_; clear ho hb hg hat) | ((with_reducible refine gate_builtin (b := .append) (xs := #[.tmp 26, .tmp 28]) rfl ?_); at_builtin; refine Kd.R_append (Kd.int .i64) (w0 := w) w.heap.size rfl (.tmp 26) (.tmp 28) 22 3 (.int .i64 0) 8 rfl Try.underlying22 info3 rfl (by decide) (by omega) v294 y293 a1 [.int .i64 a1] (fun _ => True) (fun _ => False) rfl rfl ?aP (fun _ hk => hk.elim) ?aF ?aO ?aB ?aS ?aL ?_; (case aP => exact rfl); (case aB => exact (by repeat (first | (with_reducible first | exact HB.out | apply below_alloc | apply pw_below_drewN | apply below_drew1) | exact HB.out))); (case aF => exact (fun _ _ => trivial)); (case aO => exact (by (with_reducible repeat (first | apply Kd.R_alloc | apply Kd.R_drewN | apply Kd.R_drew)); exact HO295.out)); (case aS => exact (below_size (by repeat (first | (with_reducible first | exact HB.out | apply below_alloc | apply pw_below_drewN | apply below_drew1) | exact HB.out)))); (case aL => have := LMc21.out; omega); intro v297 w27 ho hb hg hat; rw [← Ny296.out] at ho; have n0_ := Aside0.mk (hb); have n1_ := Aside0.mk (ho); clear HB; clear HO295; have HB := n0_; have HO298 := n1_; clear n0_ n1_; clear ho hb hg hat; obtain ⟨i028, hi028, _, hsz28, _⟩ := info_parts info3; obtain ⟨A28, hcut28, hA28, hC28⟩ := print_drop_of (P := Try.prog) (Value.int .i64) 0 22 3 .i64 Try.underlying22 hi028 hsz28 A0 c0 l0 x5_1 (of_decide_eq_true (by first | (with_reducible assumption) | assumption)) (of_decide_eq_true (by first | (with_reducible assumption) | assumption)) HC0.out; have HR299 := Aside0.mk (Kd.C_of_reads (h1 := fun _ => rfl) (hA28 _ (Kd.reads_of_C HR0.out))); have HC299 := Aside0.mk hC28; clear hA28 hC28 hi028 hsz28) | ((with_reducible refine gate_builtin (b := .append) (xs := #[.tmp 30, .tmp 33]) rfl ?_); at_builtin; refine Kd.R_append_rows (Kd.int .i64) (w0 := w) w.heap.size rfl (.tmp 30) (.tmp 33) 22 3 (.int .i64 0) 8 rfl Try.underlying22 info3 rfl (by decide) (by omega) v297 y296 (l0.drop (x5_1 : Int).toNat) _ _ _ (fun _ => True) (fun _ => False) rfl rfl ?aO ?aR (fun _ _ h => h) (fun _ h => h.elim) ?aF ?aB ?aS ?aL ?_; (case aR => first | (rw [← show (l0.drop (x5_1 : Int).toNat).length = (l0.length - x5_1.toNat) from List.length_drop]; repeat (first | exact (Kd.C_below HR299.out HB.out) | (with_reducible refine Kd.C_alloc ?_ _) | (with_reducible refine Kd.C_drewN ?_ _) | (with_reducible refine Kd.C_drew ?_))) | (repeat (first | exact (Kd.C_below HR299.out HB.out) | (with_reducible refine Kd.C_alloc ?_ _) | (with_reducible refine Kd.C_drewN ?_ _) | (with_reducible refine Kd.C_drew ?_)))); (case aB => exact (by repeat (first | (with_reducible first | exact HB.out | apply below_alloc | apply pw_below_drewN | apply below_drew1) | exact HB.out))); (case aF => exact (fun _ _ => trivial)); (case aO => exact (by (with_reducible repeat (first | apply Kd.R_alloc | apply Kd.R_drewN | apply Kd.R_drew)); exact HO298.out)); (case aS => exact (below_size (by repeat (first | (with_reducible first | exact HB.out | apply below_alloc | apply pw_below_drewN | apply below_drew1) | exact HB.out)))); (case aL => have := LMc24.out; have hlx_ := (show (l0.drop (x5_1 : Int).toNat).length = (l0.length - x5_1.toNat) from List.length_drop); omega); intro v301 w29 ho hb hg hat; rw [← Ny300.out] at ho; have n0_ := Aside0.mk (hb); have n1_ := Aside0.mk (ho); clear HB; clear HO298; have HB := n0_; have HO302 := n1_; clear n0_ n1_; clear ho hb hg hat))
         go_ret
         exact ⟨_, by first | rfl | (simp [errW_none, errW_some] <;> rfl) | (simp [*, errW_none, errW_some] <;> rfl), by (with_reducible repeat (first | apply Kd.R_alloc | apply Kd.R_drewN | apply Kd.R_drew)); exact HO302.out, by repeat (first | (with_reducible first | exact HB.out | apply below_alloc | apply pw_below_drewN | apply below_drew1) | exact HB.out)⟩
        ·
         rw [if_neg c24] at H
         exact absurd H (by simp)
       ·
        rw [if_neg c21] at H
        exact absurd H (by simp)
      ·
       rw [if_neg c20] at H
       exact absurd H (by simp)
     ·
      rw [if_neg c19] at H
      exact absurd H (by simp)
    ·
     rw [if_neg c18] at H
     exact absurd H (by simp)
end Go.Proofs.Ytakbijpcfnipoaa.PA

namespace Go.Proofs.Ytakbijpcfnipoaa.PA
open Go.RowKit Go.Proofs.YtakbijpcfnipoaaW.PrintWords Go.Proofs.YtakbijpcfnipoaaW.PrintLast Go.Proofs.YtakbijpcfnipoaaW.PrintMore
attribute [local go_sem] max2_int min2_int max_two min_two max_three min_three max_four min_four
set_option linter.unusedVariables false
set_option linter.unusedSimpArgs false
def turndownref07_Moved.l0 : Nat → List Int → Int → Int → List Int → Int → Option (List Int)
 | 0, _, _, _, _, _ => none
 | k + 1, x0, x1, x2, x7, x8 => if x8 < (x0.length : Int) then (if x8 = x1 then (turndownref07_Moved.l0 k x0 x1 x2 x7 (wrap64 (x8 + 1))) else (if 0 ≤ x8 then ((turndownref07_insert.f k x7 (rd x0 x8)).bind fun t304 => (turndownref07_Moved.l0 k x0 x1 x2 t304 (wrap64 (x8 + 1)))) else (none))) else ((turndownref07_insert.f k x7 x2).bind fun t307 => (some t307))
def turndownref07_Moved.f (k : Nat) (l0 : List Int) (a1 : Int) (a2 : Int) : Option (List Int) := turndownref07_Moved.l0 k l0 a1 a2 ([] : List Int) 0
set_option maxHeartbeats 8000000 in
set_option maxRecDepth 100000 in
theorem turndownref07_Moved.calls (k : Nat) (A0 : Option Addr) (c0 : Nat) (l0 : List Int) (a1 : Int) (a2 : Int) (r : List Int) (w : World) (hr0 : Kd.C (Kd.int .i64) w A0 l0.length l0) (hc0 : l0.length ≤ c0) (h : turndownref07_Moved.f k l0 a1 a2 = some r) :
  Calls Try.prog 74 #[.slice A0 l0.length c0, .int .i64 a1, .int .i64 a2] w fun e w' => ∃ v0_ : Value, e = .returned (v0_) ∧ Kd.R (Kd.int .i64) 3 w' w.heap.size (fun _ => True) v0_ r ∧ Below w.heap.size w w' := by
 have HR0 := Aside0.mk hr0
 have HC0 := Aside0.mk hc0
 clear hr0 hc0
 have HB := Aside0.mk (Below.refl w.heap.size w)
 have H : (turndownref07_Moved.l0 k l0 a1 a2 ([] : List Int) 0) = some r := h
 clear h
 have H' := Aside0.mk H
 clear H
 go_enter Try.func74, Try.ntmps74
 go_wp2
 go_loopg [7, 8] k (fun kq v7 v8 w' => ∃ (x7_1 : List Int) (x8_1 : Int), v8 = .int .i64 x8_1 ∧ Aside0 (turndownref07_Moved.l0 kq l0 a1 a2 x7_1 x8_1 = some r) ∧ Aside0 (kq ≤ k) ∧ Aside0 (Kd.R (Kd.int .i64) 3 w' w.heap.size (fun _ => True) v7 x7_1) ∧ Aside0 (Below w.heap.size w w'))
 case atStart => exact ⟨(([] : List Int)), (0), (by first | rfl | (simp; done) | (simp [*]; done)), H', ⟨Nat.le_refl _⟩, ⟨by first | exact Kd.R_nil _ _ _ _ _ | exact Kd.N_nil _ _ _ _ _ | exact Kd.V_nil _ _ _ _ _ | exact Kd.Q_nil _ _ _ _ _ | exact Kd.S_nil _ _ _ _ _⟩, ⟨by repeat (first | (with_reducible first | exact HB.out | apply below_alloc | apply pw_below_drewN | apply below_drew1) | exact HB.out)⟩⟩
 case round =>
  clear H'
  try clear p2
  obtain ⟨x7_1, x8_1, rfl, HA, HK1, HO_7, HB⟩ := hrel
  cases gk with
  | zero => exact absurd HA.out (by simp [turndownref07_Moved.l0])
  | succ k1 =>
   have H := HA.out
   clear HA
   simp only [turndownref07_Moved.l0] at H
   by_cases c4 : x8_1 < (l0.length : Int)
   ·
    rw [if_pos c4] at H
    have c4b0 : decide (x8_1 < (l0.length : Int)) = true := decide_eq_true c4
    clear c4
    by_cases c5 : x8_1 = a1
    ·
     rw [if_pos c5] at H
     have c5b0 : (x8_1 == a1) = true := beq_iff_eq.mpr c5
     have c5b1 : (x8_1 != a1) = false := bne_eq_false_iff_eq.mpr c5
     clear c5
     have H' := Aside0.mk H
     clear H
     go_wp2
     go_roundg k1
     case measure => have := HK1.out; omega
     case rel => exact ⟨(x7_1), (wrap64 (x8_1 + 1)), (by first | rfl | (simp; done) | (simp [*]; done)), H', ⟨by have := HK1.out; omega⟩, ⟨by (with_reducible repeat (first | apply Kd.R_alloc | apply Kd.R_drewN | apply Kd.R_drew)); exact HO_7.out⟩, ⟨by repeat (first | (with_reducible first | exact HB.out | apply below_alloc | apply pw_below_drewN | apply below_drew1) | exact HB.out)⟩⟩
    ·
     rw [if_neg c5] at H
     have c5b0 : (x8_1 == a1) = false := beq_eq_false_iff_ne.mpr c5
     have c5b1 : (x8_1 != a1) = true := bne_iff_ne.mpr c5
     by_cases c6 : 0 ≤ x8_1
     ·
      rw [if_pos c6] at H
      have c6b0 : decide (0 ≤ x8_1) = true := decide_eq_true c6
      clear c6
      replace H := Option.bind_eq_some_iff.mp H
      obtain ⟨t304, A70, H⟩ := H
      replace H : (turndownref07_Moved.l0 k1 l0 a1 a2 t304 (wrap64 (x8_1 + 1))) = some r := H
      have A7 := Aside0.mk A70
      clear A70
      have H' := Aside0.mk H
      clear H
      have p303 : 0 ≤ (x8_1 : Int) := of_decide_eq_true (by first | (with_reducible assumption) | assumption)
      have q303 : x8_1 < (l0.length : Int) := of_decide_eq_true (by first | (with_reducible assumption) | assumption)
      obtain ⟨ad303, e303, hx303_0⟩ := Kd.at_int HR0.out x8_1 p303 q303
      cases e303
      replace hx303_0 := (HB.out.cell (World.block_lt_of_cell? w _ hx303_0)).trans hx303_0
      replace p303 := eq_true p303
      replace q303 := eq_true q303
      obtain ⟨Ao8, co8, eo8⟩ := Kd.R_slice HO_7.out
      subst eo8
      go_wp2_with (first | ((with_reducible refine gate_callee (f := 81) rfl ?_); refine goesL_ (some 23) rfl rfl Try.func81 (by kernel_rfl) rfl #[.slice Ao8 x7_1.length co8, .int .i64 (rd l0 x8_1)] rfl (by (try simp only [List.map_toArray, List.map_cons, List.map_nil]); first | done | rfl | (simp only [List.length_drop, List.length_take]; rfl)) ?_; (with_reducible refine (turndownref07_insert.calls k1 _ _ x7_1 (rd l0 x8_1) t304 _ ?side1 ?side2 A7.out).mono ?_); (case side1 => repeat (first | exact (Kd.R_reads' HO_7.out).2.2 | (with_reducible refine Kd.C_alloc ?_ _) | (with_reducible refine Kd.C_drewN ?_ _) | (with_reducible refine Kd.C_drew ?_))); (case side2 => exact (Kd.R_reads' HO_7.out).2.1); rintro e w9 ⟨v305, rfl, ho0, hb⟩; refine ⟨_, rfl, ?_⟩; have n0_ := Aside0.mk (Kd.R_elder' (by (with_reducible repeat (first | apply Kd.R_alloc | apply Kd.R_drewN | apply Kd.R_drew)); exact HO_7.out) (Kd.R_base ho0) hb); have n1_ := Aside0.mk (Kd.R_lower (Kd.R_new' ho0 (Kd.R_lt (by (with_reducible repeat (first | apply Kd.R_alloc | apply Kd.R_drewN | apply Kd.R_drew)); exact HO_7.out))) (below_size (by repeat (first | (with_reducible first | exact HB.out | apply below_alloc | apply pw_below_drewN | apply below_drew1) | exact HB.out)))); have n2_ := Aside0.mk (below_step (by repeat (first | (with_reducible first | exact HB.out | apply below_alloc | apply pw_below_drewN | apply below_drew1) | exact HB.out)) hb); clear HO_7; clear HB; have HO_7 := n0_; have HO306 := n1_; have HB := n2_; clear n0_ n1_ n2_; (try clear hb); (try clear hb2); (try clear hk); (try clear hi); (try clear ho0)))
      go_roundg k1
      case measure => have := HK1.out; omega
      case rel => exact ⟨(t304), (wrap64 (x8_1 + 1)), (by first | rfl | (simp; done) | (simp [*]; done)), H', ⟨by have := HK1.out; omega⟩, ⟨by (with_reducible repeat (first | apply Kd.R_alloc | apply Kd.R_drewN | apply Kd.R_drew)); exact Kd.R_mono HO306.out (fun _ hk => trivial)⟩, ⟨by repeat (first | (with_reducible first | exact HB.out | apply below_alloc | apply pw_below_drewN | apply below_drew1) | exact HB.out)⟩⟩
     ·
      rw [if_neg c6] at H
      exact absurd H (by simp)
   ·
    rw [if_neg c4] at H
    have c4b0 : decide (x8_1 < (l0.length : Int)) = false := decide_eq_false c4
    clear c4
    replace H := Option.bind_eq_some_iff.mp H
    obtain ⟨t307, A100, H⟩ := H
    replace H : (some t307) = some r := H
    have A10 := Aside0.mk A100
    clear A100
    obtain rfl := Option.some.inj H
    obtain ⟨Ao11, co11, eo11⟩ := Kd.R_slice HO_7.out
    subst eo11
    go_wp2_with (first | ((with_reducible refine gate_callee (f := 81) rfl ?_); refine goesL_ (some 26) rfl rfl Try.func81 (by kernel_rfl) rfl #[.slice Ao11 x7_1.length co11, .int .i64 a2] rfl (by (try simp only [List.map_toArray, List.map_cons, List.map_nil]); first | done | rfl | (simp only [List.length_drop, List.length_take]; rfl)) ?_; (with_reducible refine (turndownref07_insert.calls k1 _ _ x7_1 a2 t307 _ ?side1 ?side2 A10.out).mono ?_); (case side1 => repeat (first | exact (Kd.R_reads' HO_7.out).2.2 | (with_reducible refine Kd.C_alloc ?_ _) | (with_reducible refine Kd.C_drewN ?_ _) | (with_reducible refine Kd.C_drew ?_))); (case side2 => exact (Kd.R_reads' HO_7.out).2.1); rintro e w12 ⟨v308, rfl, ho0, hb⟩; refine ⟨_, rfl, ?_⟩; have n0_ := Aside0.mk (Kd.R_elder' (by (with_reducible repeat (first | apply Kd.R_alloc | apply Kd.R_drewN | apply Kd.R_drew)); exact HO_7.out) (Kd.R_base ho0) hb); have n1_ := Aside0.mk (Kd.R_lower (Kd.R_new' ho0 (Kd.R_lt (by (with_reducible repeat (first | apply Kd.R_alloc | apply Kd.R_drewN | apply Kd.R_drew)); exact HO_7.out))) (below_size (by repeat (first | (with_reducible first | exact HB.out | apply below_alloc | apply pw_below_drewN | apply below_drew1) | exact HB.out)))); have n2_ := Aside0.mk (below_step (by repeat (first | (with_reducible first | exact HB.out | apply below_alloc | apply pw_below_drewN | apply below_drew1) | exact HB.out)) hb); clear HO_7; clear HB; have HO_7 := n0_; have HO309 := n1_; have HB := n2_; clear n0_ n1_ n2_; (try clear hb); (try clear hb2); (try clear hk); (try clear hi); (try clear ho0)))
    go_ret
    exact ⟨_, by first | rfl | (simp [errW_none, errW_some] <;> rfl) | (simp [*, errW_none, errW_some] <;> rfl), by (with_reducible repeat (first | apply Kd.R_alloc | apply Kd.R_drewN | apply Kd.R_drew)); exact Kd.R_mono HO309.out (fun _ hk => trivial), by repeat (first | (with_reducible first | exact HB.out | apply below_alloc | apply pw_below_drewN | apply below_drew1) | exact HB.out)⟩
end Go.Proofs.Ytakbijpcfnipoaa.PA

namespace Go.Proofs.Ytakbijpcfnipoaa.PA
open Go.RowKit Go.Proofs.YtakbijpcfnipoaaW.PrintWords Go.Proofs.YtakbijpcfnipoaaW.PrintLast Go.Proofs.YtakbijpcfnipoaaW.PrintMore
attribute [local go_sem] max2_int min2_int max_two min_two max_three min_three max_four min_four
set_option linter.unusedVariables false
set_option linter.unusedSimpArgs false
mutual
def turndownref07_Next.l0 : Nat → List (List Int) → List Int → Int → List Int → Int → Option (List Int)
 | 0, _, _, _, _, _ => none
 | k + 1, x0, x1, x2, x7, x8 => if x8 < (x0.length : Int) then (turndownref07_Next.l1 k x0 x1 x2 x7 x8 (-1) 0) else (some x7)
def turndownref07_Next.l1 : Nat → List (List Int) → List Int → Int → List Int → Int → Int → Int → Option (List Int)
 | 0, _, _, _, _, _, _, _ => none
 | k + 1, x0, x1, x2, x7, x8, x9, x10 => if 0 ≤ x8 then (if x8 < (x0.length : Int) then (if x10 < ((rd_L1 x0 x8).length : Int) then (if 0 ≤ x10 then ((turndownref07_Moved.f k (rd_L1 x0 x8) x10 x2).bind fun t320 => ((turndownref07_Code.f k t320).bind fun t323 => (if 0 ≤ t323 then (if t323 < (x1.length : Int) then (if x9 < 0 then (turndownref07_Next.l1 k x0 x1 x2 x7 x8 (wrap64 ((rd x1 t323) + (mx (wrap64 ((rd (rd_L1 x0 x8) x10) - x2)) (wrap64 (x2 - (rd (rd_L1 x0 x8) x10)))))) (wrap64 (x10 + 1))) else (if (wrap64 ((rd x1 t323) + (mx (wrap64 ((rd (rd_L1 x0 x8) x10) - x2)) (wrap64 (x2 - (rd (rd_L1 x0 x8) x10)))))) < x9 then (turndownref07_Next.l1 k x0 x1 x2 x7 x8 (wrap64 ((rd x1 t323) + (mx (wrap64 ((rd (rd_L1 x0 x8) x10) - x2)) (wrap64 (x2 - (rd (rd_L1 x0 x8) x10)))))) (wrap64 (x10 + 1))) else (turndownref07_Next.l1 k x0 x1 x2 x7 x8 x9 (wrap64 (x10 + 1))))) else (none)) else (none)))) else (none)) else ((turndownref07_Code.f k (rd_L1 x0 x8)).bind fun t315 => (if 0 ≤ t315 then (if t315 < (x7.length : Int) then (turndownref07_Next.l0 k x0 x1 x2 (x7.set (t315 : Int).toNat x9) (wrap64 (x8 + 1))) else (none)) else (none)))) else (none)) else (none)
end
def turndownref07_Next.f (k : Nat) (l0 : List (List Int)) (l1 : List Int) (a2 : Int) : Option (List Int) := if 0 ≤ (l1.length : Int) then (if ((l1.length : Int) : Int).toNat ≤ 35184372088832 then (turndownref07_Next.l0 k l0 l1 a2 (List.replicate ((l1.length : Int) : Int).toNat 0) 0) else (none)) else (none)
set_option maxHeartbeats 8000000 in
set_option maxRecDepth 100000 in
theorem turndownref07_Next.calls (k : Nat) (A0 : Option Addr) (c0 : Nat) (l0 : List (List Int)) (A1 : Option Addr) (c1 : Nat) (l1 : List Int) (a2 : Int) (r : List Int) (w : World) (hr0 : Kd.C (Kd.slice 3 (Kd.int .i64)) w A0 l0.length l0) (hc0 : l0.length ≤ c0) (hr1 : Kd.C (Kd.int .i64) w A1 l1.length l1) (hc1 : l1.length ≤ c1) (h : turndownref07_Next.f k l0 l1 a2 = some r) :
  Calls Try.prog 55 #[.slice A0 l0.length c0, .slice A1 l1.length c1, .int .i64 a2] w fun e w' => ∃ v0_ : Value, e = .returned (v0_) ∧ Kd.R (Kd.int .i64) 3 w' w.heap.size (fun _ => True) v0_ r ∧ Below w.heap.size w w' := by
 have HR0 := Aside0.mk hr0
 have HC0 := Aside0.mk hc0
 clear hr0 hc0
 have HR1 := Aside0.mk hr1
 have HC1 := Aside0.mk hc1
 clear hr1 hc1
 have HB := Aside0.mk (Below.refl w.heap.size w)
 have H : (if 0 ≤ (l1.length : Int) then (if ((l1.length : Int) : Int).toNat ≤ 35184372088832 then (turndownref07_Next.l0 k l0 l1 a2 (List.replicate ((l1.length : Int) : Int).toNat 0) 0) else (none)) else (none)) = some r := h
 clear h
 by_cases c4 : 0 ≤ (l1.length : Int)
 ·
  rw [if_pos c4] at H
  have c4b0 := eq_true c4
  have c4b1 : decide (0 ≤ (l1.length : Int)) = true := decide_eq_true c4
  clear c4
  by_cases c5 : ((l1.length : Int) : Int).toNat ≤ 35184372088832
  ·
   rw [if_pos c5] at H
   have c5b0 := eq_true c5
   have c5b1 : decide (((l1.length : Int) : Int).toNat ≤ 35184372088832) = true := decide_eq_true c5
   clear c5
   obtain ⟨y310, hy310⟩ : ∃ y_ : List Int, y_ = (List.replicate ((l1.length : Int) : Int).toNat 0) := ⟨_, rfl⟩
   replace H : (turndownref07_Next.l0 k l0 l1 a2 y310 0) = some r := by first | (rw [hy310]; with_reducible exact H) | (have H2_ := (Option.bind_some _ _).symm.trans H; rw [hy310]; with_reducible exact H2_) | (have H2_ := (Option.bind_some _ _).symm.trans H; with_reducible exact H2_) | with_reducible exact H | (rw [hy310]; exact H) | exact H
   have Ny310 := Aside0.mk hy310
   clear hy310
   have H' := Aside0.mk H
   clear H
   go_enter Try.func55, Try.ntmps55
   go_wp2_with (first | ((with_reducible refine gate_dst (N := 16) rfl ?_); refine Kd.R_make (Kd.int .i64) _ 3 rfl (N := 16) rfl 22 _ _ rfl (l1.length : Int) rfl rfl Try.underlying22 (.int .i64 0) 8 info3 rfl (by decide) (by omega) 0 (ok := fun _ => True) (okp := fun _ => True) rfl (fun _ hk => hk) trivial (of_decide_eq_true (by first | (with_reducible assumption) | assumption)) (Nat.le_trans (Nat.mul_le_mul_right _ (of_decide_eq_true (by first | (with_reducible assumption) | assumption) : (l1.length : Int).toNat ≤ 35184372088832)) (by omega)) (Below.refl _ _) (Nat.le_refl _) ?_; intro v311 w6 ho7 hb hg_ hnew_; clear hg_ hnew_; (first | rw [← Ny310.out] at ho7 | (simp only [Int.reduceToNat] at ho7; rw [← Ny310.out] at ho7)); have n0_ := Aside0.mk (Kd.R_lower ho7 (below_size (by repeat (first | (with_reducible first | exact HB.out | apply below_alloc | apply pw_below_drewN | apply below_drew1) | exact HB.out)))); have n1_ := Aside0.mk (below_step (by repeat (first | (with_reducible first | exact HB.out | apply below_alloc | apply pw_below_drewN | apply below_drew1) | exact HB.out)) hb); clear HB; have HO312 := n0_; have HB := n1_; clear n0_ n1_; clear hb ho7))
   go_loopg [8] k (fun kq v8 w' => ∃ (x7_1 : List Int) (x8_1 : Int), v8 = .int .i64 x8_1 ∧ Aside0 (turndownref07_Next.l0 kq l0 l1 a2 x7_1 x8_1 = some r) ∧ Aside0 (kq ≤ k) ∧ Aside0 (Kd.R (Kd.int .i64) 3 w' w.heap.size (fun _ => True) v311 x7_1) ∧ Aside0 (Below w.heap.size w w'))
   case atStart => exact ⟨(y310), (0), (by first | rfl | (simp; done) | (simp [*]; done)), H', ⟨Nat.le_refl _⟩, ⟨by (with_reducible repeat (first | apply Kd.R_alloc | apply Kd.R_drewN | apply Kd.R_drew)); exact HO312.out⟩, ⟨by repeat (first | (with_reducible first | exact HB.out | apply below_alloc | apply pw_below_drewN | apply below_drew1) | exact HB.out)⟩⟩
   case round =>
    clear H'
    try clear c1
    try clear p2
    try clear c4
    try clear c4b0
    try clear c4b1
    try clear c5
    try clear c5b0
    try clear c5b1
    obtain ⟨x7_1, x8_1, rfl, HA, HK1, HO_7, HB⟩ := hrel
    cases gk with
    | zero => exact absurd HA.out (by simp [turndownref07_Next.l0])
    | succ k1 =>
     have H := HA.out
     clear HA
     simp only [turndownref07_Next.l0] at H
     by_cases c8 : x8_1 < (l0.length : Int)
     ·
      rw [if_pos c8] at H
      have c8b0 : decide (x8_1 < (l0.length : Int)) = true := decide_eq_true c8
      clear c8
      have H' := Aside0.mk H
      clear H
      go_wp2
      go_loopg [9, 10] k1 (fun kq v9 v10 w' => ∃ (x9_2 : Int) (x10_2 : Int), v9 = .int .i64 x9_2 ∧ v10 = .int .i64 x10_2 ∧ Aside0 (turndownref07_Next.l1 kq l0 l1 a2 x7_1 x8_1 x9_2 x10_2 = some r) ∧ Aside0 (kq ≤ k1) ∧ Aside0 (Kd.R (Kd.int .i64) 3 w' w.heap.size (fun _ => True) v311 x7_1) ∧ Aside0 (Below w.heap.size w w'))
      case atStart => exact ⟨((-1)), (0), (by first | rfl | (simp; done) | (simp [*]; done)), (by first | rfl | (simp; done) | (simp [*]; done)), H', ⟨Nat.le_refl _⟩, ⟨by (with_reducible repeat (first | apply Kd.R_alloc | apply Kd.R_drewN | apply Kd.R_drew)); exact HO_7.out⟩, ⟨by repeat (first | (with_reducible first | exact HB.out | apply below_alloc | apply pw_below_drewN | apply below_drew1) | exact HB.out)⟩⟩
      case round =>
       clear H'
       try clear c1
       try clear p2
       try clear c4
       try clear c4b0
       try clear c4b1
       try clear c5
       try clear c5b0
       try clear c5b1
       try clear c8
       try clear c8b0
       try clear p2
       obtain ⟨x9_2, x10_2, rfl, rfl, HA, HK2, HO_7, HB⟩ := hrel
       cases gk with
       | zero => exact absurd HA.out (by simp [turndownref07_Next.l1])
       | succ k2 =>
        have H := HA.out
        clear HA
        simp only [turndownref07_Next.l1] at H
        by_cases c9 : 0 ≤ x8_1
        ·
         rw [if_pos c9] at H
         have c9b0 : decide (0 ≤ x8_1) = true := decide_eq_true c9
         clear c9
         by_cases c10 : x8_1 < (l0.length : Int)
         ·
          rw [if_pos c10] at H
          have c10b0 : decide (x8_1 < (l0.length : Int)) = true := decide_eq_true c10
          clear c10
          by_cases c11 : x10_2 < ((rd_L1 l0 x8_1).length : Int)
          ·
           rw [if_pos c11] at H
           have c11b0 : decide (x10_2 < ((rd_L1 l0 x8_1).length : Int)) = true := decide_eq_true c11
           clear c11
           by_cases c12 : 0 ≤ x10_2
           ·
            rw [if_pos c12] at H
            have c12b0 : decide (0 ≤ x10_2) = true := decide_eq_true c12
            clear c12
            replace H := Option.bind_eq_some_iff.mp H
            obtain ⟨t320, A130, H⟩ := H
            replace H : ((turndownref07_Code.f k2 t320).bind fun t323 => (if 0 ≤ t323 then (if t323 < (l1.length : Int) then (if x9_2 < 0 then (turndownref07_Next.l1 k2 l0 l1 a2 x7_1 x8_1 (wrap64 ((rd l1 t323) + (mx (wrap64 ((rd (rd_L1 l0 x8_1) x10_2) - a2)) (wrap64 (a2 - (rd (rd_L1 l0 x8_1) x10_2)))))) (wrap64 (x10_2 + 1))) else (if (wrap64 ((rd l1 t323) + (mx (wrap64 ((rd (rd_L1 l0 x8_1) x10_2) - a2)) (wrap64 (a2 - (rd (rd_L1 l0 x8_1) x10_2)))))) < x9_2 then (turndownref07_Next.l1 k2 l0 l1 a2 x7_1 x8_1 (wrap64 ((rd l1 t323) + (mx (wrap64 ((rd (rd_L1 l0 x8_1) x10_2) - a2)) (wrap64 (a2 - (rd (rd_L1 l0 x8_1) x10_2)))))) (wrap64 (x10_2 + 1))) else (turndownref07_Next.l1 k2 l0 l1 a2 x7_1 x8_1 x9_2 (wrap64 (x10_2 + 1))))) else (none)) else (none))) = some r := H
            have A13 := Aside0.mk A130
            clear A130
            replace H := Option.bind_eq_some_iff.mp H
            obtain ⟨t323, A140, H⟩ := H
            replace H : (if 0 ≤ t323 then (if t323 < (l1.length : Int) then (if x9_2 < 0 then (turndownref07_Next.l1 k2 l0 l1 a2 x7_1 x8_1 (wrap64 ((rd l1 t323) + (mx (wrap64 ((rd (rd_L1 l0 x8_1) x10_2) - a2)) (wrap64 (a2 - (rd (rd_L1 l0 x8_1) x10_2)))))) (wrap64 (x10_2 + 1))) else (if (wrap64 ((rd l1 t323) + (mx (wrap64 ((rd (rd_L1 l0 x8_1) x10_2) - a2)) (wrap64 (a2 - (rd (rd_L1 l0 x8_1) x10_2)))))) < x9_2 then (turndownref07_Next.l1 k2 l0 l1 a2 x7_1 x8_1 (wrap64 ((rd l1 t323) + (mx (wrap64 ((rd (rd_L1 l0 x8_1) x10_2) - a2)) (wrap64 (a2 - (rd (rd_L1 l0 x8_1) x10_2)))))) (wrap64 (x10_2 + 1))) else (turndownref07_Next.l1 k2 l0 l1 a2 x7_1 x8_1 x9_2 (wrap64 (x10_2 + 1))))) else (none)) else (none)) = some r := H
            have A14 := Aside0.mk A140
            clear A140
            by_cases c15 : 0 ≤ t323
            ·
             rw [if_pos c15] at H
             have c15b0 : decide (0 ≤ t323) = true := decide_eq_true c15
             clear c15
             by_cases c16 : t323 < (l1.length : Int)
             ·
              rw [if_pos c16] at H
              have c16b0 : decide (t323 < (l1.length : Int)) = true := decide_eq_true c16
              clear c16
              obtain ⟨ji17, hji17⟩ : ∃ j_ : Int, (mx (wrap64 ((rd (rd_L1 l0 x8_1) x10_2) - a2)) (wrap64 (a2 - (rd (rd_L1 l0 x8_1) x10_2)))) = j_ := ⟨_, rfl⟩
              replace H : (if x9_2 < 0 then (turndownref07_Next.l1 k2 l0 l1 a2 x7_1 x8_1 (wrap64 ((rd l1 t323) + (ji17))) (wrap64 (x10_2 + 1))) else (if (wrap64 ((rd l1 t323) + (ji17))) < x9_2 then (turndownref07_Next.l1 k2 l0 l1 a2 x7_1 x8_1 (wrap64 ((rd l1 t323) + (ji17))) (wrap64 (x10_2 + 1))) else (turndownref07_Next.l1 k2 l0 l1 a2 x7_1 x8_1 x9_2 (wrap64 (x10_2 + 1))))) = some r := by first | (rw [hji17] at H; exact H) | (simp only [hji17] at H ⊢; exact H)
              (try rw [hji17] at A13)
              (try rw [hji17] at A14)
              have hji17_ : (if (wrap64 ((rd (rd_L1 l0 x8_1) x10_2) - a2)) < (wrap64 (a2 - (rd (rd_L1 l0 x8_1) x10_2))) then (wrap64 (a2 - (rd (rd_L1 l0 x8_1) x10_2))) else (wrap64 ((rd (rd_L1 l0 x8_1) x10_2) - a2))) = ji17 := hji17
              by_cases c18 : x9_2 < 0
              ·
               rw [if_pos c18] at H
               have c18b0 : decide (x9_2 < 0) = true := decide_eq_true c18
               clear c18
               have H' := Aside0.mk H
               clear H
               have p313 : 0 ≤ (x8_1 : Int) := of_decide_eq_true (by first | (with_reducible assumption) | assumption)
               have q313 : x8_1 < (l0.length : Int) := of_decide_eq_true (by first | (with_reducible assumption) | assumption)
               obtain ⟨ad313, A313_0, c313_0, e313, hx313_0, hl313_0, hi313_0⟩ := at_L1 HR0.out x8_1 p313 q313
               cases e313
               replace hx313_0 := (HB.out.cell (World.block_lt_of_cell? w _ hx313_0)).trans hx313_0
               have HR313_0 := Aside0.mk hi313_0
               have HC313_0 := Aside0.mk hl313_0
               clear hi313_0 hl313_0
               replace p313 := eq_true p313
               replace q313 := eq_true q313
               have p317 : 0 ≤ (x8_1 : Int) := of_decide_eq_true (by first | (with_reducible assumption) | assumption)
               have q317 : x8_1 < (l0.length : Int) := of_decide_eq_true (by first | (with_reducible assumption) | assumption)
               obtain ⟨ad317, A317_0, c317_0, e317, hx317_0, hl317_0, hi317_0⟩ := at_L1 HR0.out x8_1 p317 q317
               obtain rfl : ad313 = ad317 := (by injection e317)
               replace hx317_0 := (HB.out.cell (World.block_lt_of_cell? w _ hx317_0)).trans hx317_0
               have HR317_0 := Aside0.mk hi317_0
               have HC317_0 := Aside0.mk hl317_0
               clear hi317_0 hl317_0
               replace p317 := eq_true p317
               replace q317 := eq_true q317
               have ea_ := Option.some.inj (hx313_0.symm.trans hx317_0)
               injection ea_ with ea_ en_ ec_
               subst ea_
               subst ec_
               clear en_
               have p318 : 0 ≤ (x10_2 : Int) := of_decide_eq_true (by first | (with_reducible assumption) | assumption)
               have q318 : x10_2 < ((rd_L1 l0 x8_1).length : Int) := of_decide_eq_true (by first | (with_reducible assumption) | assumption)
               obtain ⟨ad318, e318, hx318_0⟩ := Kd.at_int HR317_0.out x10_2 p318 q318
               cases e318
               replace hx318_0 := (HB.out.cell (World.block_lt_of_cell? w _ hx318_0)).trans hx318_0
               replace p318 := eq_true p318
               replace q318 := eq_true q318
               have p319 : 0 ≤ (x8_1 : Int) := of_decide_eq_true (by first | (with_reducible assumption) | assumption)
               have q319 : x8_1 < (l0.length : Int) := of_decide_eq_true (by first | (with_reducible assumption) | assumption)
               obtain ⟨ad319, A319_0, c319_0, e319, hx319_0, hl319_0, hi319_0⟩ := at_L1 HR0.out x8_1 p319 q319
               obtain rfl : ad313 = ad319 := (by injection e319)
               replace hx319_0 := (HB.out.cell (World.block_lt_of_cell? w _ hx319_0)).trans hx319_0
               have HR319_0 := Aside0.mk hi319_0
               have HC319_0 := Aside0.mk hl319_0
               clear hi319_0 hl319_0
               replace p319 := eq_true p319
               replace q319 := eq_true q319
               have ea_ := Option.some.inj (hx313_0.symm.trans hx319_0)
               injection ea_ with ea_ en_ ec_
               subst ea_
               subst ec_
               clear en_
               go_wp2_with (first | ((with_reducible refine gate_callee (f := 74) rfl ?_); refine goesL_ (some 46) rfl rfl Try.func74 (by kernel_rfl) rfl #[.slice (some ad318) (rd_L1 l0 x8_1).length c313_0, .int .i64 x10_2, .int .i64 a2] rfl (by (try simp only [List.map_toArray, List.map_cons, List.map_nil]); first | done | rfl | (simp only [List.length_drop, List.length_take]; rfl)) ?_; (with_reducible refine (turndownref07_Moved.calls k2 _ _ (rd_L1 l0 x8_1) x10_2 a2 t320 _ ?side1 ?side2 A13.out).mono ?_); (case side1 => repeat (first | exact (Kd.C_below HR319_0.out HB.out) | (with_reducible refine Kd.C_alloc ?_ _) | (with_reducible refine Kd.C_drewN ?_ _) | (with_reducible refine Kd.C_drew ?_))); (case side2 => exact HC319_0.out); rintro e w19 ⟨v321, rfl, ho0, hb⟩; refine ⟨_, rfl, ?_⟩; have n0_ := Aside0.mk (Kd.R_elder' (by (with_reducible repeat (first | apply Kd.R_alloc | apply Kd.R_drewN | apply Kd.R_drew)); exact HO_7.out) (Kd.R_base ho0) hb); have n1_ := Aside0.mk (Kd.R_lower (Kd.R_new' ho0 (Kd.R_lt (by (with_reducible repeat (first | apply Kd.R_alloc | apply Kd.R_drewN | apply Kd.R_drew)); exact HO_7.out))) (below_size (by repeat (first | (with_reducible first | exact HB.out | apply below_alloc | apply pw_below_drewN | apply below_drew1) | exact HB.out)))); have n2_ := Aside0.mk (below_step (by repeat (first | (with_reducible first | exact HB.out | apply below_alloc | apply pw_below_drewN | apply below_drew1) | exact HB.out)) hb); clear HO_7; clear HB; have HO_7 := n0_; have HO322 := n1_; have HB := n2_; clear n0_ n1_ n2_; (try clear hb); (try clear hb2); (try clear hk); (try clear hi); (try clear ho0); obtain ⟨Ao20, co20, eo20⟩ := Kd.R_slice HO322.out; subst eo20) | ((with_reducible refine gate_callee (f := 27) rfl ?_); refine goesL_ (some 47) rfl rfl Try.func27 (by kernel_rfl) rfl #[.slice Ao20 t320.length co20] rfl (by (try simp only [List.map_toArray, List.map_cons, List.map_nil]); first | done | rfl | (simp only [List.length_drop, List.length_take]; rfl)) ?_; (with_reducible refine (turndownref07_Code.calls k2 _ _ t320 t323 _ ?side1 ?side2 A14.out).mono ?_); (case side1 => repeat (first | exact (Kd.R_reads' HO322.out).2.2 | (with_reducible refine Kd.C_alloc ?_ _) | (with_reducible refine Kd.C_drewN ?_ _) | (with_reducible refine Kd.C_drew ?_))); (case side2 => exact (Kd.R_reads' HO322.out).2.1); rintro e w' ⟨rfl, ⟨nd, rfl⟩⟩; refine ⟨_, rfl, ?_⟩; have p324 : 0 ≤ (t323 : Int) := of_decide_eq_true (by first | (with_reducible assumption) | assumption); have q324 : t323 < (l1.length : Int) := of_decide_eq_true (by first | (with_reducible assumption) | assumption); obtain ⟨ad324, e324, hx324_0⟩ := Kd.at_int HR1.out t323 p324 q324; cases e324; replace hx324_0 := (HB.out.cell (World.block_lt_of_cell? w _ hx324_0)).trans hx324_0; replace p324 := eq_true p324; replace q324 := eq_true q324))
               go_roundg k2
               case measure => have := HK1.out; have := HK2.out; omega
               case rel => exact ⟨(wrap64 ((rd l1 t323) + (ji17))), (wrap64 (x10_2 + 1)), (by first | rfl | (simp; done) | (simp only [← hji17] <;> (first | rfl | simp)) | (simp [*]; done)), (by first | rfl | (simp; done) | (simp [*]; done)), H', ⟨by have := HK1.out; have := HK2.out; omega⟩, ⟨by (with_reducible repeat (first | apply Kd.R_alloc | apply Kd.R_drewN | apply Kd.R_drew)); exact Kd.R_mono HO_7.out (fun _ hk => trivial)⟩, ⟨by repeat (first | (with_reducible first | exact HB.out | apply below_alloc | apply pw_below_drewN | apply below_drew1) | exact HB.out)⟩⟩
              ·
               rw [if_neg c18] at H
               have c18b0 : decide (x9_2 < 0) = false := decide_eq_false c18
               clear c18
               by_cases c21 : (wrap64 ((rd l1 t323) + (ji17))) < x9_2
               ·
                rw [if_pos c21] at H
                have c21b0 : decide ((wrap64 ((rd l1 t323) + (ji17))) < x9_2) = true := decide_eq_true c21
                clear c21
                have H' := Aside0.mk H
                clear H
                have p313 : 0 ≤ (x8_1 : Int) := of_decide_eq_true (by first | (with_reducible assumption) | assumption)
                have q313 : x8_1 < (l0.length : Int) := of_decide_eq_true (by first | (with_reducible assumption) | assumption)
                obtain ⟨ad313, A313_0, c313_0, e313, hx313_0, hl313_0, hi313_0⟩ := at_L1 HR0.out x8_1 p313 q313
                cases e313
                replace hx313_0 := (HB.out.cell (World.block_lt_of_cell? w _ hx313_0)).trans hx313_0
                have HR313_0 := Aside0.mk hi313_0
                have HC313_0 := Aside0.mk hl313_0
                clear hi313_0 hl313_0
                replace p313 := eq_true p313
                replace q313 := eq_true q313
                have p317 : 0 ≤ (x8_1 : Int) := of_decide_eq_true (by first | (with_reducible assumption) | assumption)
                have q317 : x8_1 < (l0.length : Int) := of_decide_eq_true (by first | (with_reducible assumption) | assumption)
                obtain ⟨ad317, A317_0, c317_0, e317, hx317_0, hl317_0, hi317_0⟩ := at_L1 HR0.out x8_1 p317 q317
                obtain rfl : ad313 = ad317 := (by injection e317)
                replace hx317_0 := (HB.out.cell (World.block_lt_of_cell? w _ hx317_0)).trans hx317_0
                have HR317_0 := Aside0.mk hi317_0
                have HC317_0 := Aside0.mk hl317_0
                clear hi317_0 hl317_0
                replace p317 := eq_true p317
                replace q317 := eq_true q317
                have ea_ := Option.some.inj (hx313_0.symm.trans hx317_0)
                injection ea_ with ea_ en_ ec_
                subst ea_
                subst ec_
                clear en_
                have p318 : 0 ≤ (x10_2 : Int) := of_decide_eq_true (by first | (with_reducible assumption) | assumption)
                have q318 : x10_2 < ((rd_L1 l0 x8_1).length : Int) := of_decide_eq_true (by first | (with_reducible assumption) | assumption)
                obtain ⟨ad318, e318, hx318_0⟩ := Kd.at_int HR317_0.out x10_2 p318 q318
                cases e318
                replace hx318_0 := (HB.out.cell (World.block_lt_of_cell? w _ hx318_0)).trans hx318_0
                replace p318 := eq_true p318
                replace q318 := eq_true q318
                have p319 : 0 ≤ (x8_1 : Int) := of_decide_eq_true (by first | (with_reducible assumption) | assumption)
                have q319 : x8_1 < (l0.length : Int) := of_decide_eq_true (by first | (with_reducible assumption) | assumption)
                obtain ⟨ad319, A319_0, c319_0, e319, hx319_0, hl319_0, hi319_0⟩ := at_L1 HR0.out x8_1 p319 q319
                obtain rfl : ad313 = ad319 := (by injection e319)
                replace hx319_0 := (HB.out.cell (World.block_lt_of_cell? w _ hx319_0)).trans hx319_0
                have HR319_0 := Aside0.mk hi319_0
                have HC319_0 := Aside0.mk hl319_0
                clear hi319_0 hl319_0
                replace p319 := eq_true p319
                replace q319 := eq_true q319
                have ea_ := Option.some.inj (hx313_0.symm.trans hx319_0)
                injection ea_ with ea_ en_ ec_
                subst ea_
                subst ec_
                clear en_
                go_wp2_with (first | ((with_reducible refine gate_callee (f := 74) rfl ?_); refine goesL_ (some 46) rfl rfl Try.func74 (by kernel_rfl) rfl #[.slice (some ad318) (rd_L1 l0 x8_1).length c313_0, .int .i64 x10_2, .int .i64 a2] rfl (by (try simp only [List.map_toArray, List.map_cons, List.map_nil]); first | done | rfl | (simp only [List.length_drop, List.length_take]; rfl)) ?_; (with_reducible refine (turndownref07_Moved.calls k2 _ _ (rd_L1 l0 x8_1) x10_2 a2 t320 _ ?side1 ?side2 A13.out).mono ?_); (case side1 => repeat (first | exact (Kd.C_below HR319_0.out HB.out) | (with_reducible refine Kd.C_alloc ?_ _) | (with_reducible refine Kd.C_drewN ?_ _) | (with_reducible refine Kd.C_drew ?_))); (case side2 => exact HC319_0.out); rintro e w22 ⟨v321, rfl, ho0, hb⟩; refine ⟨_, rfl, ?_⟩; have n0_ := Aside0.mk (Kd.R_elder' (by (with_reducible repeat (first | apply Kd.R_alloc | apply Kd.R_drewN | apply Kd.R_drew)); exact HO_7.out) (Kd.R_base ho0) hb); have n1_ := Aside0.mk (Kd.R_lower (Kd.R_new' ho0 (Kd.R_lt (by (with_reducible repeat (first | apply Kd.R_alloc | apply Kd.R_drewN | apply Kd.R_drew)); exact HO_7.out))) (below_size (by repeat (first | (with_reducible first | exact HB.out | apply below_alloc | apply pw_below_drewN | apply below_drew1) | exact HB.out)))); have n2_ := Aside0.mk (below_step (by repeat (first | (with_reducible first | exact HB.out | apply below_alloc | apply pw_below_drewN | apply below_drew1) | exact HB.out)) hb); clear HO_7; clear HB; have HO_7 := n0_; have HO322 := n1_; have HB := n2_; clear n0_ n1_ n2_; (try clear hb); (try clear hb2); (try clear hk); (try clear hi); (try clear ho0); obtain ⟨Ao23, co23, eo23⟩ := Kd.R_slice HO322.out; subst eo23) | ((with_reducible refine gate_callee (f := 27) rfl ?_); refine goesL_ (some 47) rfl rfl Try.func27 (by kernel_rfl) rfl #[.slice Ao23 t320.length co23] rfl (by (try simp only [List.map_toArray, List.map_cons, List.map_nil]); first | done | rfl | (simp only [List.length_drop, List.length_take]; rfl)) ?_; (with_reducible refine (turndownref07_Code.calls k2 _ _ t320 t323 _ ?side1 ?side2 A14.out).mono ?_); (case side1 => repeat (first | exact (Kd.R_reads' HO322.out).2.2 | (with_reducible refine Kd.C_alloc ?_ _) | (with_reducible refine Kd.C_drewN ?_ _) | (with_reducible refine Kd.C_drew ?_))); (case side2 => exact (Kd.R_reads' HO322.out).2.1); rintro e w' ⟨rfl, ⟨nd, rfl⟩⟩; refine ⟨_, rfl, ?_⟩; have p324 : 0 ≤ (t323 : Int) := of_decide_eq_true (by first | (with_reducible assumption) | assumption); have q324 : t323 < (l1.length : Int) := of_decide_eq_true (by first | (with_reducible assumption) | assumption); obtain ⟨ad324, e324, hx324_0⟩ := Kd.at_int HR1.out t323 p324 q324; cases e324; replace hx324_0 := (HB.out.cell (World.block_lt_of_cell? w _ hx324_0)).trans hx324_0; replace p324 := eq_true p324; replace q324 := eq_true q324))
                go_roundg k2
                case measure => have := HK1.out; have := HK2.out; omega
                case rel => exact ⟨(wrap64 ((rd l1 t323) + (ji17))), (wrap64 (x10_2 + 1)), (by first | rfl | (simp; done) | (simp only [← hji17] <;> (first | rfl | simp)) | (simp [*]; done)), (by first | rfl | (simp; done) | (simp [*]; done)), H', ⟨by have := HK1.out; have := HK2.out; omega⟩, ⟨by (with_reducible repeat (first | apply Kd.R_alloc | apply Kd.R_drewN | apply Kd.R_drew)); exact Kd.R_mono HO_7.out (fun _ hk => trivial)⟩, ⟨by repeat (first | (with_reducible first | exact HB.out | apply below_alloc | apply pw_below_drewN | apply below_drew1) | exact HB.out)⟩⟩
               ·
                rw [if_neg c21] at H
                have c21b0 : decide ((wrap64 ((rd l1 t323) + (ji17))) < x9_2) = false := decide_eq_false c21
                clear c21
                have H' := Aside0.mk H
                clear H
                have p313 : 0 ≤ (x8_1 : Int) := of_decide_eq_true (by first | (with_reducible assumption) | assumption)
                have q313 : x8_1 < (l0.length : Int) := of_decide_eq_true (by first | (with_reducible assumption) | assumption)
                obtain ⟨ad313, A313_0, c313_0, e313, hx313_0, hl313_0, hi313_0⟩ := at_L1 HR0.out x8_1 p313 q313
                cases e313
                replace hx313_0 := (HB.out.cell (World.block_lt_of_cell? w _ hx313_0)).trans hx313_0
                have HR313_0 := Aside0.mk hi313_0
                have HC313_0 := Aside0.mk hl313_0
                clear hi313_0 hl313_0
                replace p313 := eq_true p313
                replace q313 := eq_true q313
                have p317 : 0 ≤ (x8_1 : Int) := of_decide_eq_true (by first | (with_reducible assumption) | assumption)
                have q317 : x8_1 < (l0.length : Int) := of_decide_eq_true (by first | (with_reducible assumption) | assumption)
                obtain ⟨ad317, A317_0, c317_0, e317, hx317_0, hl317_0, hi317_0⟩ := at_L1 HR0.out x8_1 p317 q317
                obtain rfl : ad313 = ad317 := (by injection e317)
                replace hx317_0 := (HB.out.cell (World.block_lt_of_cell? w _ hx317_0)).trans hx317_0
                have HR317_0 := Aside0.mk hi317_0
                have HC317_0 := Aside0.mk hl317_0
                clear hi317_0 hl317_0
                replace p317 := eq_true p317
                replace q317 := eq_true q317
                have ea_ := Option.some.inj (hx313_0.symm.trans hx317_0)
                injection ea_ with ea_ en_ ec_
                subst ea_
                subst ec_
                clear en_
                have p318 : 0 ≤ (x10_2 : Int) := of_decide_eq_true (by first | (with_reducible assumption) | assumption)
                have q318 : x10_2 < ((rd_L1 l0 x8_1).length : Int) := of_decide_eq_true (by first | (with_reducible assumption) | assumption)
                obtain ⟨ad318, e318, hx318_0⟩ := Kd.at_int HR317_0.out x10_2 p318 q318
                cases e318
                replace hx318_0 := (HB.out.cell (World.block_lt_of_cell? w _ hx318_0)).trans hx318_0
                replace p318 := eq_true p318
                replace q318 := eq_true q318
                have p319 : 0 ≤ (x8_1 : Int) := of_decide_eq_true (by first | (with_reducible assumption) | assumption)
                have q319 : x8_1 < (l0.length : Int) := of_decide_eq_true (by first | (with_reducible assumption) | assumption)
                obtain ⟨ad319, A319_0, c319_0, e319, hx319_0, hl319_0, hi319_0⟩ := at_L1 HR0.out x8_1 p319 q319
                obtain rfl : ad313 = ad319 := (by injection e319)
                replace hx319_0 := (HB.out.cell (World.block_lt_of_cell? w _ hx319_0)).trans hx319_0
                have HR319_0 := Aside0.mk hi319_0
                have HC319_0 := Aside0.mk hl319_0
                clear hi319_0 hl319_0
                replace p319 := eq_true p319
                replace q319 := eq_true q319
                have ea_ := Option.some.inj (hx313_0.symm.trans hx319_0)
                injection ea_ with ea_ en_ ec_
                subst ea_
                subst ec_
                clear en_
                go_wp2_with (first | ((with_reducible refine gate_callee (f := 74) rfl ?_); refine goesL_ (some 46) rfl rfl Try.func74 (by kernel_rfl) rfl #[.slice (some ad318) (rd_L1 l0 x8_1).length c313_0, .int .i64 x10_2, .int .i64 a2] rfl (by (try simp only [List.map_toArray, List.map_cons, List.map_nil]); first | done | rfl | (simp only [List.length_drop, List.length_take]; rfl)) ?_; (with_reducible refine (turndownref07_Moved.calls k2 _ _ (rd_L1 l0 x8_1) x10_2 a2 t320 _ ?side1 ?side2 A13.out).mono ?_); (case side1 => repeat (first | exact (Kd.C_below HR319_0.out HB.out) | (with_reducible refine Kd.C_alloc ?_ _) | (with_reducible refine Kd.C_drewN ?_ _) | (with_reducible refine Kd.C_drew ?_))); (case side2 => exact HC319_0.out); rintro e w24 ⟨v321, rfl, ho0, hb⟩; refine ⟨_, rfl, ?_⟩; have n0_ := Aside0.mk (Kd.R_elder' (by (with_reducible repeat (first | apply Kd.R_alloc | apply Kd.R_drewN | apply Kd.R_drew)); exact HO_7.out) (Kd.R_base ho0) hb); have n1_ := Aside0.mk (Kd.R_lower (Kd.R_new' ho0 (Kd.R_lt (by (with_reducible repeat (first | apply Kd.R_alloc | apply Kd.R_drewN | apply Kd.R_drew)); exact HO_7.out))) (below_size (by repeat (first | (with_reducible first | exact HB.out | apply below_alloc | apply pw_below_drewN | apply below_drew1) | exact HB.out)))); have n2_ := Aside0.mk (below_step (by repeat (first | (with_reducible first | exact HB.out | apply below_alloc | apply pw_below_drewN | apply below_drew1) | exact HB.out)) hb); clear HO_7; clear HB; have HO_7 := n0_; have HO322 := n1_; have HB := n2_; clear n0_ n1_ n2_; (try clear hb); (try clear hb2); (try clear hk); (try clear hi); (try clear ho0); obtain ⟨Ao25, co25, eo25⟩ := Kd.R_slice HO322.out; subst eo25) | ((with_reducible refine gate_callee (f := 27) rfl ?_); refine goesL_ (some 47) rfl rfl Try.func27 (by kernel_rfl) rfl #[.slice Ao25 t320.length co25] rfl (by (try simp only [List.map_toArray, List.map_cons, List.map_nil]); first | done | rfl | (simp only [List.length_drop, List.length_take]; rfl)) ?_; (with_reducible refine (turndownref07_Code.calls k2 _ _ t320 t323 _ ?side1 ?side2 A14.out).mono ?_); (case side1 => repeat (first | exact (Kd.R_reads' HO322.out).2.2 | (with_reducible refine Kd.C_alloc ?_ _) | (with_reducible refine Kd.C_drewN ?_ _) | (with_reducible refine Kd.C_drew ?_))); (case side2 => exact (Kd.R_reads' HO322.out).2.1); rintro e w' ⟨rfl, ⟨nd, rfl⟩⟩; refine ⟨_, rfl, ?_⟩; have p324 : 0 ≤ (t323 : Int) := of_decide_eq_true (by first | (with_reducible assumption) | assumption); have q324 : t323 < (l1.length : Int) := of_decide_eq_true (by first | (with_reducible assumption) | assumption); obtain ⟨ad324, e324, hx324_0⟩ := Kd.at_int HR1.out t323 p324 q324; cases e324; replace hx324_0 := (HB.out.cell (World.block_lt_of_cell? w _ hx324_0)).trans hx324_0; replace p324 := eq_true p324; replace q324 := eq_true q324))
                go_roundg k2
                case measure => have := HK1.out; have := HK2.out; omega
                case rel => exact ⟨(x9_2), (wrap64 (x10_2 + 1)), (by first | rfl | (simp; done) | (simp [*]; done)), (by first | rfl | (simp; done) | (simp [*]; done)), H', ⟨by have := HK1.out; have := HK2.out; omega⟩, ⟨by (with_reducible repeat (first | apply Kd.R_alloc | apply Kd.R_drewN | apply Kd.R_drew)); exact Kd.R_mono HO_7.out (fun _ hk => trivial)⟩, ⟨by repeat (first | (with_reducible first | exact HB.out | apply below_alloc | apply pw_below_drewN | apply below_drew1) | exact HB.out)⟩⟩
             ·
              rw [if_neg c16] at H
              exact absurd H (by simp)
            ·
             rw [if_neg c15] at H
             exact absurd H (by simp)
           ·
            rw [if_neg c12] at H
            exact absurd H (by simp)
          ·
           rw [if_neg c11] at H
           have c11b0 : decide (x10_2 < ((rd_L1 l0 x8_1).length : Int)) = false := decide_eq_false c11
           clear c11
           replace H := Option.bind_eq_some_iff.mp H
           obtain ⟨t315, A260, H⟩ := H
           replace H : (if 0 ≤ t315 then (if t315 < (x7_1.length : Int) then (turndownref07_Next.l0 k2 l0 l1 a2 (x7_1.set (t315 : Int).toNat x9_2) (wrap64 (x8_1 + 1))) else (none)) else (none)) = some r := H
           have A26 := Aside0.mk A260
           clear A260
           by_cases c27 : 0 ≤ t315
           ·
            rw [if_pos c27] at H
            have c27b0 : decide (0 ≤ t315) = true := decide_eq_true c27
            clear c27
            by_cases c28 : t315 < (x7_1.length : Int)
            ·
             rw [if_pos c28] at H
             have c28b0 : decide (t315 < (x7_1.length : Int)) = true := decide_eq_true c28
             clear c28
             obtain ⟨y316, hy316⟩ : ∃ y_ : List Int, y_ = (x7_1.set (t315 : Int).toNat x9_2) := ⟨_, rfl⟩
             replace H : (turndownref07_Next.l0 k2 l0 l1 a2 y316 (wrap64 (x8_1 + 1))) = some r := by first | (rw [hy316]; with_reducible exact H) | (have H2_ := (Option.bind_some _ _).symm.trans H; rw [hy316]; with_reducible exact H2_) | (have H2_ := (Option.bind_some _ _).symm.trans H; with_reducible exact H2_) | with_reducible exact H | (rw [hy316]; exact H) | exact H
             have Ny316 := Aside0.mk hy316
             clear hy316
             have H' := Aside0.mk H
             clear H
             have p313 : 0 ≤ (x8_1 : Int) := of_decide_eq_true (by first | (with_reducible assumption) | assumption)
             have q313 : x8_1 < (l0.length : Int) := of_decide_eq_true (by first | (with_reducible assumption) | assumption)
             obtain ⟨ad313, A313_0, c313_0, e313, hx313_0, hl313_0, hi313_0⟩ := at_L1 HR0.out x8_1 p313 q313
             cases e313
             replace hx313_0 := (HB.out.cell (World.block_lt_of_cell? w _ hx313_0)).trans hx313_0
             have HR313_0 := Aside0.mk hi313_0
             have HC313_0 := Aside0.mk hl313_0
             clear hi313_0 hl313_0
             replace p313 := eq_true p313
             replace q313 := eq_true q313
             have p314 : 0 ≤ (x8_1 : Int) := of_decide_eq_true (by first | (with_reducible assumption) | assumption)
             have q314 : x8_1 < (l0.length : Int) := of_decide_eq_true (by first | (with_reducible assumption) | assumption)
             obtain ⟨ad314, A314_0, c314_0, e314, hx314_0, hl314_0, hi314_0⟩ := at_L1 HR0.out x8_1 p314 q314
             obtain rfl : ad313 = ad314 := (by injection e314)
             replace hx314_0 := (HB.out.cell (World.block_lt_of_cell? w _ hx314_0)).trans hx314_0
             have HR314_0 := Aside0.mk hi314_0
             have HC314_0 := Aside0.mk hl314_0
             clear hi314_0 hl314_0
             replace p314 := eq_true p314
             replace q314 := eq_true q314
             have ea_ := Option.some.inj (hx313_0.symm.trans hx314_0)
             injection ea_ with ea_ en_ ec_
             subst ea_
             subst ec_
             clear en_
             go_wp2_with (first | ((with_reducible refine gate_callee (f := 27) rfl ?_); refine goesL_ (some 70) rfl rfl Try.func27 (by kernel_rfl) rfl #[.slice A313_0 (rd_L1 l0 x8_1).length c313_0] rfl (by (try simp only [List.map_toArray, List.map_cons, List.map_nil]); first | done | rfl | (simp only [List.length_drop, List.length_take]; rfl)) ?_; (with_reducible refine (turndownref07_Code.calls k2 _ _ (rd_L1 l0 x8_1) t315 _ ?side1 ?side2 A26.out).mono ?_); (case side1 => repeat (first | exact (Kd.C_below HR314_0.out HB.out) | (with_reducible refine Kd.C_alloc ?_ _) | (with_reducible refine Kd.C_drewN ?_ _) | (with_reducible refine Kd.C_drew ?_))); (case side2 => exact HC314_0.out); rintro e w' ⟨rfl, ⟨nd, rfl⟩⟩; refine ⟨_, rfl, ?_⟩; (try (rw [drewN_self wr]; generalize hq_ : World.drewN wr _ = wr; have n0_ : Aside0 (Kd.R (Kd.int .i64) 3 wr w.heap.size (fun _ => True) v311 x7_1) := ⟨by rw [← hq_]; exact (by (with_reducible repeat (first | apply Kd.R_alloc | apply Kd.R_drewN | apply Kd.R_drew)); exact HO_7.out)⟩; have n1_ : Aside0 (Below w.heap.size w wr) := ⟨by rw [← hq_]; exact (by repeat (first | (with_reducible first | exact HB.out | apply below_alloc | apply pw_below_drewN | apply below_drew1) | exact HB.out))⟩; clear HO_7 HB hq_; have HO_7 := n0_; have HB := n1_; clear n0_ n1_)); have p29 : 0 ≤ (t315 : Int) := of_decide_eq_true (by first | (with_reducible assumption) | assumption); have q29 : (t315 : Int) < ((x7_1.length : Int) : Int) := of_decide_eq_true (by first | (with_reducible assumption) | assumption); obtain ⟨go29, co29, eo29, gb29, gl29, cl29, HG29⟩ := Kd.R_form HO_7.out (by omega); (first | cases eo29 | (injection eo29 with ea_ en_ ec_; (first | subst ea_ | (injection ea_ with ea_; subst ea_)); subst ec_; clear en_)); have GB29 := Aside0.mk gb29; have GG29 := Aside0.mk HG29; clear gb29 gl29 HG29; obtain ⟨hx29_0, hf29_0⟩ := Kd.R_celln 0 HO_7.out (t315 : Int) p29 q29; replace p29 := eq_true p29; replace q29 := eq_true q29; obtain ⟨hy30_, hz30_⟩ := Kd.R_celln 0 HO_7.out (t315 : Int) (of_decide_eq_true (by first | (with_reducible assumption) | assumption)) (of_decide_eq_true (by first | (with_reducible assumption) | assumption)); have HP30 := Kd.R_putg HO_7.out (t315 : Int) x9_2) | ((with_reducible refine gate_store (t := 3) (p := 74) rfl ?_); refine store_event (t := 3) (p := 74) (v := ?vo_w31) (w1 := (wr.setCell ⟨go29, (t315 : Int).toNat, none⟩ (.int .i64 x9_2))) ?hg ?ho ?hn ?hr ?_; (case ho => rfl); (case hg => rfl); (case hn => rfl); (case hr => first | (go_simp; done) | (go_simp; rfl)); intro w31 hw; have hg : wr.grownBy w31 (some go29) := (by rw [hw]; exact HP30.2); have hp_ : Kd.R (Kd.int .i64) 3 w31 w.heap.size (fun _ => True) (.slice (some ⟨go29, 0, none⟩) x7_1.length co29) y316 := (by rw [hw, Ny316.out]; exact HP30.1); clear HP30; have n0_ := Aside0.mk (hp_); have n1_ := Aside0.mk ((by rw [hw]; exact below_set (HB.out) GB29.out : Below w.heap.size w w31)); clear HO_7; clear HB; have HO_7 := n0_; have HB := n1_; clear n0_ n1_; clear hg hw hp_))
             go_roundg k2
             case measure => have := HK1.out; have := HK2.out; omega
             case rel => exact ⟨(y316), (wrap64 (x8_1 + 1)), (by first | rfl | (simp; done) | (simp [*]; done)), H', ⟨by have := HK1.out; have := HK2.out; omega⟩, ⟨by (with_reducible repeat (first | apply Kd.R_alloc | apply Kd.R_drewN | apply Kd.R_drew)); exact HO_7.out⟩, ⟨by repeat (first | (with_reducible first | exact HB.out | apply below_alloc | apply pw_below_drewN | apply below_drew1) | exact HB.out)⟩⟩
            ·
             rw [if_neg c28] at H
             exact absurd H (by simp)
           ·
            rw [if_neg c27] at H
            exact absurd H (by simp)
         ·
          rw [if_neg c10] at H
          exact absurd H (by simp)
        ·
         rw [if_neg c9] at H
         exact absurd H (by simp)
     ·
      rw [if_neg c8] at H
      have c8b0 : decide (x8_1 < (l0.length : Int)) = false := decide_eq_false c8
      clear c8
      obtain rfl := Option.some.inj H
      go_wp2
      go_ret
      exact ⟨_, by first | rfl | (simp [errW_none, errW_some] <;> rfl) | (simp [*, errW_none, errW_some] <;> rfl), by (with_reducible repeat (first | apply Kd.R_alloc | apply Kd.R_drewN | apply Kd.R_drew)); exact HO_7.out, by repeat (first | (with_reducible first | exact HB.out | apply below_alloc | apply pw_below_drewN | apply below_drew1) | exact HB.out)⟩
  ·
   rw [if_neg c5] at H
   exact absurd H (by simp)
 ·
  rw [if_neg c4] at H
  exact absurd H (by simp)
end Go.Proofs.Ytakbijpcfnipoaa.PA

namespace Go.Proofs.Ytakbijpcfnipoaa.PA
open Go.RowKit Go.Proofs.YtakbijpcfnipoaaW.PrintWords Go.Proofs.YtakbijpcfnipoaaW.PrintLast Go.Proofs.YtakbijpcfnipoaaW.PrintMore
attribute [local go_sem] max2_int min2_int max_two min_two max_three min_three max_four min_four
set_option linter.unusedVariables false
set_option linter.unusedSimpArgs false
mutual
def turndownref07_All.l0 : Nat → Int → List (List Int) → Int → Option ((List (List Int)))
 | 0, _, _, _ => none
 | k + 1, x0, x3, x4 => if x4 < x0 then (turndownref07_All.l1 k x0 x3 x4 ([] : List (List Int)) 0) else (some x3)
def turndownref07_All.l1 : Nat → Int → List (List Int) → Int → List (List Int) → Int → Option ((List (List Int)))
 | 0, _, _, _, _, _ => none
 | k + 1, x0, x3, x4, x5, x6 => if x6 < (x3.length : Int) then (if x4 > 0 then (if 0 ≤ x6 then (if 0 ≤ (wrap64 (x4 - 1)) then (if (wrap64 (x4 - 1)) < ((rd_L1 x3 x6).length : Int) then (turndownref07_All.j2 k x0 x3 x4 x5 x6 (rd (rd_L1 x3 x6) (wrap64 (x4 - 1)))) else (none)) else (none)) else (none)) else (turndownref07_All.j2 k x0 x3 x4 x5 x6 0)) else (turndownref07_All.l0 k x0 x5 (wrap64 (x4 + 1)))
def turndownref07_All.j2 : Nat → Int → List (List Int) → Int → List (List Int) → Int → Int → Option ((List (List Int)))
 | 0, _, _, _, _, _, _ => none
 | k + 1, x0, x3, x4, x5, x6, x7 => turndownref07_All.l2 k x0 x3 x4 x5 x6 x7
def turndownref07_All.l2 : Nat → Int → List (List Int) → Int → List (List Int) → Int → Int → Option ((List (List Int)))
 | 0, _, _, _, _, _, _ => none
 | k + 1, x0, x3, x4, x5, x6, x8 => if x8 ≤ 30 then (if 0 ≤ x6 then (if x6 < (x3.length : Int) then (if ([] : List Int).length + (rd_L1 x3 x6).length < 17592186044416 then ((some (([] : List Int) ++ (rd_L1 x3 x6) : List Int)).bind fun y338 => (if y338.length < 17592186044416 then (if x5.length < 5864062014805 then (turndownref07_All.l2 k x0 x3 x4 (x5 ++ [(y338 ++ [x8])]) x6 (wrap64 (x8 + 1))) else (none)) else (none))) else (none)) else (none)) else (none)) else (turndownref07_All.l1 k x0 x3 x4 x5 (wrap64 (x6 + 1)))
end
def turndownref07_All.f (k : Nat) (a0 : Int) : Option ((List (List Int))) := turndownref07_All.l0 k a0 (([[]] : List (List Int))) 0
set_option maxHeartbeats 8000000 in
set_option maxRecDepth 100000 in
theorem turndownref07_All.calls (k : Nat) (a0 : Int) (r : List (List Int)) (w : World) (h : turndownref07_All.f k a0 = some r) :
  Calls Try.prog 26 #[.int .i64 a0] w fun e w' => ∃ v0_ : Value, e = .returned (v0_) ∧ Kd.S (Kd.slice 3 (Kd.int .i64)) 22 w' w.heap.size (fun _ => True) v0_ r ∧ Below w.heap.size w w' := by
 have HB := Aside0.mk (Below.refl w.heap.size w)
 have H : (turndownref07_All.l0 k a0 (([[]] : List (List Int))) 0) = some r := h
 clear h
 obtain ⟨y332, hy332⟩ : ∃ y_ : List (List Int), y_ = (([[]] : List (List Int))) := ⟨_, rfl⟩
 replace H : (turndownref07_All.l0 k a0 y332 0) = some r := by first | (rw [hy332]; with_reducible exact H) | (have H2_ := (Option.bind_some _ _).symm.trans H; rw [hy332]; with_reducible exact H2_) | (have H2_ := (Option.bind_some _ _).symm.trans H; with_reducible exact H2_) | with_reducible exact H | (rw [hy332]; exact H) | exact H
 have Ny332 := Aside0.mk hy332
 clear hy332
 have H' := Aside0.mk H
 clear H
 go_enter Try.func26, Try.ntmps26
 go_wp2_with (first | ((with_reducible refine gate_dst (N := 10) rfl ?_); refine Kd.S_lit (Kd.slice 3 (Kd.int .i64)) _ 22 ?hg (N := 10) ?hd (xs := ([[]] : List (List Int))) (inner := [.slice none 0 0]) (ok := fun _ => True) (okp := fun _ => True) ?hr ?hp (fun _ hk => hk) trivial (Below.refl _ _) (Nat.le_refl _) (by simp) ?_; (case hd => rfl); (case hg => rfl); (case hr => first | (go_simp; done) | (go_simp; rfl)); (case hp => exact (Reps.one (show Kd.M (Kd.slice 3 (Kd.int .i64)) _ _ _ [] [.slice none 0 0] from ⟨_, rfl, Kd.R_nil _ _ _ _ _⟩) (Reps.none _ _))); intro v333 w2 ho3 hb hg_ hnew_; clear hg_ hnew_; (first | rw [← Ny332.out] at ho3 | (simp only [Int.reduceToNat] at ho3; rw [← Ny332.out] at ho3)); have n0_ := Aside0.mk (Kd.S_lower ho3 (below_size (by repeat (first | (with_reducible first | exact HB.out | apply below_alloc | apply pw_below_drewN | apply below_drew1) | exact HB.out)))); have n1_ := Aside0.mk (below_step (by repeat (first | (with_reducible first | exact HB.out | apply below_alloc | apply pw_below_drewN | apply below_drew1) | exact HB.out)) hb); clear HB; have HO334 := n0_; have HB := n1_; clear n0_ n1_; clear hb ho3))
 go_loopg [3, 4] k (fun kq v3 v4 w' => ∃ (x3_1 : List (List Int)) (x4_1 : Int), v4 = .int .i64 x4_1 ∧ Aside0 (turndownref07_All.l0 kq a0 x3_1 x4_1 = some r) ∧ Aside0 (kq ≤ k) ∧ Aside0 (Kd.S (Kd.slice 3 (Kd.int .i64)) 22 w' w.heap.size (fun _ => True) v3 x3_1) ∧ Aside0 (Below w.heap.size w w'))
 case atStart => exact ⟨(y332), (0), (by first | rfl | (simp; done) | (simp [*]; done)), H', ⟨Nat.le_refl _⟩, ⟨by (with_reducible repeat (first | apply Kd.S_alloc | apply Kd.S_drewN | apply Kd.S_drew)); exact HO334.out⟩, ⟨by repeat (first | (with_reducible first | exact HB.out | apply below_alloc | apply pw_below_drewN | apply below_drew1) | exact HB.out)⟩⟩
 case round =>
  clear H'
  try clear c2
  try clear p2
  obtain ⟨x3_1, x4_1, rfl, HA, HK1, HO_3, HB⟩ := hrel
  cases gk with
  | zero => exact absurd HA.out (by simp [turndownref07_All.l0])
  | succ k1 =>
   have H := HA.out
   clear HA
   simp only [turndownref07_All.l0] at H
   by_cases c4 : x4_1 < a0
   ·
    rw [if_pos c4] at H
    have c4b0 : decide (x4_1 < a0) = true := decide_eq_true c4
    clear c4
    have H' := Aside0.mk H
    clear H
    go_wp2
    go_loopg [5, 6] k1 (fun kq v5 v6 w' => ∃ (x5_2 : List (List Int)) (x6_2 : Int), v6 = .int .i64 x6_2 ∧ Aside0 (turndownref07_All.l1 kq a0 x3_1 x4_1 x5_2 x6_2 = some r) ∧ Aside0 (kq ≤ k1) ∧ Aside0 (Kd.S (Kd.slice 3 (Kd.int .i64)) 22 w' w.heap.size (fun k_ => some k_ ≠ (v5 : Value).ownBlock) u3 x3_1) ∧ Aside0 (Kd.S (Kd.slice 3 (Kd.int .i64)) 22 w' w.heap.size (fun k_ => some k_ ≠ (u3 : Value).ownBlock) v5 x5_2) ∧ Aside0 (Below w.heap.size w w'))
    case atStart => exact ⟨(([] : List (List Int))), (0), (by first | rfl | (simp; done) | (simp [*]; done)), H', ⟨Nat.le_refl _⟩, ⟨by (with_reducible repeat (first | apply Kd.S_alloc | apply Kd.S_drewN | apply Kd.S_drew)); exact Kd.S_mono HO_3.out (fun _ hk => (by simp [Value.ownBlock]))⟩, ⟨by first | exact Kd.S_nil _ _ _ _ _ | exact Kd.N_nil _ _ _ _ _ | exact Kd.V_nil _ _ _ _ _ | exact Kd.Q_nil _ _ _ _ _ | exact Kd.R_nil _ _ _ _ _⟩, ⟨by repeat (first | (with_reducible first | exact HB.out | apply below_alloc | apply pw_below_drewN | apply below_drew1) | exact HB.out)⟩⟩
    case round =>
     clear H'
     try clear c2
     try clear p2
     try clear c4
     try clear c4b0
     try clear p2
     obtain ⟨x5_2, x6_2, rfl, HA, HK2, HO_3, HO_5, HB⟩ := hrel
     cases gk with
     | zero => exact absurd HA.out (by simp [turndownref07_All.l1])
     | succ k2 =>
      have H := HA.out
      clear HA
      simp only [turndownref07_All.l1] at H
      by_cases c5 : x6_2 < (x3_1.length : Int)
      ·
       rw [if_pos c5] at H
       have c5b0 : decide (x6_2 < (x3_1.length : Int)) = true := decide_eq_true c5
       clear c5
       have HC6 := Aside0.mk H
       clear H
       obtain ⟨Ao7, co7, eo7⟩ := Kd.S_slice HO_3.out
       subst eo7
       go_upto_if 23 with (fail)
       go_cut [7] (fun v7 wc => ∃ (kq : Nat) (x7_5 : Int), v7 = .int .i64 x7_5 ∧ Aside0 (turndownref07_All.j2 kq a0 x3_1 x4_1 x5_2 x6_2 x7_5 = some r) ∧ Aside0 (kq ≤ k2) ∧ Aside0 (Kd.S (Kd.slice 3 (Kd.int .i64)) 22 wc w.heap.size (fun k_ => some k_ ≠ (u5 : Value).ownBlock) (.slice Ao7 x3_1.length co7) x3_1) ∧ Aside0 (Kd.S (Kd.slice 3 (Kd.int .i64)) 22 wc w.heap.size (fun k_ => some k_ ≠ ((.slice Ao7 x3_1.length co7) : Value).ownBlock) u5 x5_2) ∧ Aside0 (Below w.heap.size w wc))
       case first =>
        have H := HC6.out
        clear HC6
        by_cases c8 : x4_1 > 0
        ·
         rw [if_pos c8] at H
         have c8b0 : decide (0 < x4_1) = true := decide_eq_true c8
         clear c8
         (first | rw [c8b0] | (simp only [i64_w, i32_w]; rw [c8b0]) | skip)
         by_cases c9 : 0 ≤ x6_2
         ·
          rw [if_pos c9] at H
          have c9b0 : decide (0 ≤ x6_2) = true := decide_eq_true c9
          clear c9
          obtain ⟨ji10, hji10⟩ : ∃ j_ : Int, (wrap64 (x4_1 - 1)) = j_ := ⟨_, rfl⟩
          replace H : (if 0 ≤ (ji10) then (if (ji10) < ((rd_L1 x3_1 x6_2).length : Int) then (turndownref07_All.j2 k2 a0 x3_1 x4_1 x5_2 x6_2 (rd (rd_L1 x3_1 x6_2) (ji10))) else (none)) else (none)) = some r := by first | (rw [hji10] at H; exact H) | (simp only [hji10] at H ⊢; exact H)
          have hji10w : (IntKind.i64.wrap (x4_1 - 1)) = ji10 := (i64_w _).trans hji10
          by_cases c11 : 0 ≤ (ji10)
          ·
           rw [if_pos c11] at H
           have c11b0 : decide (0 ≤ (ji10)) = true := decide_eq_true c11
           clear c11
           by_cases c12 : (ji10) < ((rd_L1 x3_1 x6_2).length : Int)
           ·
            rw [if_pos c12] at H
            have c12b0 : decide ((ji10) < ((rd_L1 x3_1 x6_2).length : Int)) = true := decide_eq_true c12
            clear c12
            have H' := Aside0.mk H
            clear H
            have p335 : 0 ≤ (x6_2 : Int) := of_decide_eq_true (by first | (with_reducible assumption) | assumption)
            have q335 : x6_2 < (x3_1.length : Int) := of_decide_eq_true (by first | (with_reducible assumption) | assumption)
            obtain ⟨ad335, A335_0, c335_0, e335, hx335_0, hl335_0, hi335_0⟩ := at_L1 (Kd.S_reads' HO_3.out).2.2 x6_2 p335 q335
            cases e335
            obtain ⟨ce335, hce335, hMe335, hcc335⟩ := Kd.S_get HO_3.out [] x6_2 p335 (by first | exact q335 | exact of_decide_eq_true (by first | (with_reducible assumption) | assumption) | (have e_ := (Kd.S_reads' HO_3.out).1; omega))
            obtain ⟨ve335_0, rfl, ge335_0⟩ := hMe335
            have hv335_0 := hcc335 0 _ rfl
            rw [Nat.add_zero, show ((Kd.slice 3 (Kd.int .i64))).sz = 1 from rfl, Nat.mul_one] at hv335_0
            replace hv335_0 := Option.some.inj (hv335_0.symm.trans hx335_0)
            rw [hv335_0] at ge335_0
            have HL335_0 := Aside0.mk (show Kd.R (Kd.int .i64) 3 _ _ _ _ (rd_L1 x3_1 x6_2) from ge335_0)
            clear hv335_0 ge335_0
            clear hcc335 hce335
            have HR335_0 := Aside0.mk hi335_0
            have HC335_0 := Aside0.mk hl335_0
            clear hi335_0 hl335_0
            replace p335 := eq_true p335
            replace q335 := eq_true q335
            have p336 : 0 ≤ ((ji10) : Int) := of_decide_eq_true (by first | (with_reducible assumption) | assumption)
            have q336 : (ji10) < ((rd_L1 x3_1 x6_2).length : Int) := of_decide_eq_true (by first | (with_reducible assumption) | assumption)
            obtain ⟨ad336, e336, hx336_0⟩ := Kd.at_int (by repeat (first | (with_reducible exact HR335_0.out) | (with_reducible refine Kd.C_alloc ?_ _) | (with_reducible refine Kd.C_drewN ?_ _) | (with_reducible refine Kd.C_drew ?_) | exact HR335_0.out)) (ji10) p336 q336
            cases e336
            replace p336 := eq_true p336
            replace q336 := eq_true q336
            go_wp2
            go_meet
            case rel => exact ⟨_, (rd (rd_L1 x3_1 x6_2) (ji10)), (by first | rfl | (simp; done) | (simp only [← hji10] <;> (first | rfl | simp)) | (simp [*]; done)), H', ⟨by have := HK1.out; have := HK2.out; first | omega | exact Nat.le_refl _⟩, ⟨by (with_reducible repeat (first | apply Kd.S_alloc | apply Kd.S_drewN | apply Kd.S_drew)); exact HO_3.out⟩, ⟨by (with_reducible repeat (first | apply Kd.S_alloc | apply Kd.S_drewN | apply Kd.S_drew)); exact HO_5.out⟩, ⟨by repeat (first | (with_reducible first | exact HB.out | apply below_alloc | apply pw_below_drewN | apply below_drew1) | exact HB.out)⟩⟩
           ·
            rw [if_neg c12] at H
            exact absurd H (by simp)
          ·
           rw [if_neg c11] at H
           exact absurd H (by simp)
         ·
          rw [if_neg c9] at H
          exact absurd H (by simp)
        ·
         rw [if_neg c8] at H
         have c8b0 : decide (0 < x4_1) = false := decide_eq_false c8
         clear c8
         (first | rw [c8b0] | (simp only [i64_w, i32_w]; rw [c8b0]) | skip)
         have H' := Aside0.mk H
         clear H
         go_wp2
         go_meet
         case rel => exact ⟨_, (0), (by first | rfl | (simp; done) | (simp [*]; done)), H', ⟨by have := HK1.out; have := HK2.out; first | omega | exact Nat.le_refl _⟩, ⟨by (with_reducible repeat (first | apply Kd.S_alloc | apply Kd.S_drewN | apply Kd.S_drew)); exact HO_3.out⟩, ⟨by (with_reducible repeat (first | apply Kd.S_alloc | apply Kd.S_drewN | apply Kd.S_drew)); exact HO_5.out⟩, ⟨by repeat (first | (with_reducible first | exact HB.out | apply below_alloc | apply pw_below_drewN | apply below_drew1) | exact HB.out)⟩⟩
       case rest =>
        clear HC6
        try clear c1
        try clear c2
        try clear p2
        try clear c3
        try clear p3
        try clear q3
        try clear hx3
        try clear c4
        try clear c4b0
        try clear c5
        try clear c5b0
        try clear p6
        try clear c8
        try clear c8b0
        try clear c9
        try clear c9b0
        try clear c11
        try clear c11b0
        try clear c12
        try clear c12b0
        try clear hx335_0
        try clear hx336_0
        try clear p2
        try clear p335
        try clear p336
        try clear q335
        try clear q336
        obtain ⟨kq, x7_5, rfl, HA, HJ5, HO_3, HO_5, HB⟩ := hcut
        cases kq with
        | zero => exact absurd HA.out (by simp [turndownref07_All.j2])
        | succ kj5 =>
         have H := HA.out
         clear HA
         simp only [turndownref07_All.j2] at H
         have H' := Aside0.mk H
         clear H
         go_wp2
         go_loopg [5, 8] kj5 (fun kq v5 v8 w' => ∃ (x5_4 : List (List Int)) (x8_4 : Int), v8 = .int .i64 x8_4 ∧ Aside0 (turndownref07_All.l2 kq a0 x3_1 x4_1 x5_4 x6_2 x8_4 = some r) ∧ Aside0 (kq ≤ kj5) ∧ Aside0 (Kd.S (Kd.slice 3 (Kd.int .i64)) 22 w' w.heap.size (fun k_ => some k_ ≠ (v5 : Value).ownBlock) (.slice Ao7 x3_1.length co7) x3_1) ∧ Aside0 (Kd.S (Kd.slice 3 (Kd.int .i64)) 22 w' w.heap.size (fun k_ => some k_ ≠ ((.slice Ao7 x3_1.length co7) : Value).ownBlock) v5 x5_4) ∧ Aside0 (Below w.heap.size w w'))
         case atStart => exact ⟨(x5_2), (x7_5), (by first | rfl | (simp; done) | (simp [*]; done)), H', ⟨Nat.le_refl _⟩, ⟨by (with_reducible repeat (first | apply Kd.S_alloc | apply Kd.S_drewN | apply Kd.S_drew)); exact HO_3.out⟩, ⟨by (with_reducible repeat (first | apply Kd.S_alloc | apply Kd.S_drewN | apply Kd.S_drew)); exact HO_5.out⟩, ⟨by repeat (first | (with_reducible first | exact HB.out | apply below_alloc | apply pw_below_drewN | apply below_drew1) | exact HB.out)⟩⟩
         case round =>
          clear H'
          try clear c1
          try clear c2
          try clear p2
          try clear c3
          try clear p3
          try clear q3
          try clear hx3
          try clear c4
          try clear c4b0
          try clear c5
          try clear c5b0
          try clear p6
          try clear c8
          try clear c8b0
          try clear c9
          try clear c9b0
          try clear c11
          try clear c11b0
          try clear c12
          try clear c12b0
          try clear hx335_0
          try clear hx336_0
          try clear p2
          try clear p3
          try clear p335
          try clear p336
          try clear p6
          try clear q3
          try clear q335
          try clear q336
          obtain ⟨x5_4, x8_4, rfl, HA, HK4, HO_3, HO_5, HB⟩ := hrel
          cases gk with
          | zero => exact absurd HA.out (by simp [turndownref07_All.l2])
          | succ k4 =>
           have H := HA.out
           clear HA
           simp only [turndownref07_All.l2] at H
           by_cases c13 : x8_4 ≤ 30
           ·
            rw [if_pos c13] at H
            have c13b0 : decide (x8_4 ≤ 30) = true := decide_eq_true c13
            clear c13
            by_cases c14 : 0 ≤ x6_2
            ·
             rw [if_pos c14] at H
             have c14b0 : decide (0 ≤ x6_2) = true := decide_eq_true c14
             clear c14
             by_cases c15 : x6_2 < (x3_1.length : Int)
             ·
              rw [if_pos c15] at H
              have c15b0 : decide (x6_2 < (x3_1.length : Int)) = true := decide_eq_true c15
              clear c15
              by_cases c16 : ([] : List Int).length + (rd_L1 x3_1 x6_2).length < 17592186044416
              ·
               rw [if_pos c16] at H
               have LMc16 := Aside0.mk c16
               clear c16
               obtain ⟨y338, hy338⟩ : ∃ y_ : List Int, y_ = (([] : List Int) ++ (rd_L1 x3_1 x6_2)) := ⟨_, rfl⟩
               replace H : (if y338.length < 17592186044416 then (if x5_4.length < 5864062014805 then (turndownref07_All.l2 k4 a0 x3_1 x4_1 (x5_4 ++ [(y338 ++ [x8_4])]) x6_2 (wrap64 (x8_4 + 1))) else (none)) else (none)) = some r := by first | (rw [hy338]; with_reducible exact H) | (have H2_ := (Option.bind_some _ _).symm.trans H; rw [hy338]; with_reducible exact H2_) | (have H2_ := (Option.bind_some _ _).symm.trans H; with_reducible exact H2_) | with_reducible exact H | (rw [hy338]; exact H) | exact H
               have Ny338 := Aside0.mk hy338
               clear hy338
               by_cases c17 : y338.length < 17592186044416
               ·
                rw [if_pos c17] at H
                have LMc17 := Aside0.mk c17
                clear c17
                obtain ⟨y341, hy341⟩ : ∃ y_ : List Int, y_ = (y338 ++ [x8_4]) := ⟨_, rfl⟩
                replace H : (if x5_4.length < 5864062014805 then (turndownref07_All.l2 k4 a0 x3_1 x4_1 (x5_4 ++ [y341]) x6_2 (wrap64 (x8_4 + 1))) else (none)) = some r := by first | (rw [hy341]; with_reducible exact H) | (have H2_ := (Option.bind_some _ _).symm.trans H; rw [hy341]; with_reducible exact H2_) | (have H2_ := (Option.bind_some _ _).symm.trans H; with_reducible exact H2_) | with_reducible exact H | (rw [hy341]; exact H) | exact H
                have Ny341 := Aside0.mk hy341
                clear hy341
                by_cases c18 : x5_4.length < 5864062014805
                ·
                 rw [if_pos c18] at H
                 have LMc18 := Aside0.mk c18
                 clear c18
                 obtain ⟨y344, hy344⟩ : ∃ y_ : List (List Int), y_ = (x5_4 ++ [y341]) := ⟨_, rfl⟩
                 replace H : (turndownref07_All.l2 k4 a0 x3_1 x4_1 y344 x6_2 (wrap64 (x8_4 + 1))) = some r := by first | (rw [hy344]; with_reducible exact H) | (have H2_ := (Option.bind_some _ _).symm.trans H; rw [hy344]; with_reducible exact H2_) | (have H2_ := (Option.bind_some _ _).symm.trans H; with_reducible exact H2_) | with_reducible exact H | (rw [hy344]; exact H) | exact H
                 have Ny344 := Aside0.mk hy344
                 clear hy344
                 have H' := Aside0.mk H
                 clear H
                 have p337 : 0 ≤ (x6_2 : Int) := of_decide_eq_true (by first | (with_reducible assumption) | assumption)
                 have q337 : x6_2 < (x3_1.length : Int) := of_decide_eq_true (by first | (with_reducible assumption) | assumption)
                 obtain ⟨ad337, A337_0, c337_0, e337, hx337_0, hl337_0, hi337_0⟩ := at_L1 (Kd.S_reads' HO_3.out).2.2 x6_2 p337 q337
                 cases e337
                 obtain ⟨ce337, hce337, hMe337, hcc337⟩ := Kd.S_get HO_3.out [] x6_2 p337 (by first | exact q337 | exact of_decide_eq_true (by first | (with_reducible assumption) | assumption) | (have e_ := (Kd.S_reads' HO_3.out).1; omega))
                 obtain ⟨ve337_0, rfl, ge337_0⟩ := hMe337
                 have hv337_0 := hcc337 0 _ rfl
                 rw [Nat.add_zero, show ((Kd.slice 3 (Kd.int .i64))).sz = 1 from rfl, Nat.mul_one] at hv337_0
                 replace hv337_0 := Option.some.inj (hv337_0.symm.trans hx337_0)
                 rw [hv337_0] at ge337_0
                 have HL337_0 := Aside0.mk (show Kd.R (Kd.int .i64) 3 _ _ _ _ (rd_L1 x3_1 x6_2) from ge337_0)
                 clear hv337_0 ge337_0
                 clear hcc337 hce337
                 have HR337_0 := Aside0.mk hi337_0
                 have HC337_0 := Aside0.mk hl337_0
                 clear hi337_0 hl337_0
                 replace p337 := eq_true p337
                 replace q337 := eq_true q337
                 go_wp2_with (first | ((with_reducible refine gate_builtin (b := .append) (xs := #[.tmp 37, .tmp 41]) rfl ?_); at_builtin; refine Kd.R_append_rows (Kd.int .i64) (w0 := w) w.heap.size rfl (.tmp 37) (.tmp 41) 22 3 (.int .i64 0) 8 rfl Try.underlying22 info3 rfl (by decide) (by omega) (.slice none 0 0) ([] : List Int) (rd_L1 x3_1 x6_2) _ _ _ (fun k_ => some k_ ≠ (.slice A337_0 (rd_L1 x3_1 x6_2).length c337_0 : Value).ownBlock) (fun _ => False) rfl rfl ?aO ?aR (fun _ _ h => h) (fun _ h => h.elim) ?aF ?aB ?aS ?aL ?_; (case aR => repeat (first | exact (by repeat (first | (with_reducible exact HR337_0.out) | (with_reducible refine Kd.C_alloc ?_ _) | (with_reducible refine Kd.C_drewN ?_ _) | (with_reducible refine Kd.C_drew ?_) | exact HR337_0.out)) | (with_reducible refine Kd.C_alloc ?_ _) | (with_reducible refine Kd.C_drewN ?_ _) | (with_reducible refine Kd.C_drew ?_))); (case aB => exact (by repeat (first | (with_reducible first | exact HB.out | apply below_alloc | apply pw_below_drewN | apply below_drew1) | exact HB.out))); (case aF => exact (fun k_ hk => Kd.fresh' (Kd.R_lt (by (with_reducible repeat (first | apply Kd.R_alloc | apply Kd.R_drewN | apply Kd.R_drew)); exact HL337_0.out)) k_ hk)); (case aO => exact ((Kd.R_nil _ _ _ _ (fun k_ => some k_ ≠ (.slice A337_0 (rd_L1 x3_1 x6_2).length c337_0 : Value).ownBlock)))); (case aS => exact (below_size (by repeat (first | (with_reducible first | exact HB.out | apply below_alloc | apply pw_below_drewN | apply below_drew1) | exact HB.out)))); (case aL => have := LMc16.out; omega); intro v339 w19 ho hb hg hat; rw [← Ny338.out] at ho; have n0_ := Aside0.mk (Kd.S_after (Kd.S_apart_nil (by (with_reducible repeat (first | apply Kd.S_alloc | apply Kd.S_drewN | apply Kd.S_drew)); exact HO_3.out)) hg hat); have n1_ := Aside0.mk (Kd.S_after (Kd.S_apart_nil (by (with_reducible repeat (first | apply Kd.S_alloc | apply Kd.S_drewN | apply Kd.S_drew)); exact HO_5.out)) hg hat); have n2_ := Aside0.mk (Kd.R_after (Kd.R_apart_nil (by (with_reducible repeat (first | apply Kd.R_alloc | apply Kd.R_drewN | apply Kd.R_drew)); exact HL337_0.out)) hg hat); have n3_ := Aside0.mk (hb); have n4_ := Aside0.mk (ho); clear HO_3; clear HO_5; clear HL337_0; clear HB; have HO_3 := n0_; have HO_5 := n1_; have HL337_0 := n2_; have HB := n3_; have HO340 := n4_; clear n0_ n1_ n2_ n3_ n4_; clear ho hb hg hat) | ((with_reducible refine gate_builtin (b := .append) (xs := #[.tmp 44, .tmp 46]) rfl ?_); at_builtin; refine Kd.R_append (Kd.int .i64) (w0 := w) w.heap.size rfl (.tmp 44) (.tmp 46) 22 3 (.int .i64 0) 8 rfl Try.underlying22 info3 rfl (by decide) (by omega) v339 y338 x8_4 [.int .i64 x8_4] (fun k_ => some k_ ≠ (.slice A337_0 (rd_L1 x3_1 x6_2).length c337_0 : Value).ownBlock) (fun _ => False) rfl rfl ?aP (fun _ hk => hk.elim) ?aF ?aO ?aB ?aS ?aL ?_; (case aP => exact rfl); (case aB => exact (by repeat (first | (with_reducible first | exact HB.out | apply below_alloc | apply pw_below_drewN | apply below_drew1) | exact HB.out))); (case aF => exact (fun k_ hk => Kd.fresh' (Kd.R_lt (by (with_reducible repeat (first | apply Kd.R_alloc | apply Kd.R_drewN | apply Kd.R_drew)); exact HL337_0.out)) k_ hk)); (case aO => exact (by (with_reducible repeat (first | apply Kd.R_alloc | apply Kd.R_drewN | apply Kd.R_drew)); exact HO340.out)); (case aS => exact (below_size (by repeat (first | (with_reducible first | exact HB.out | apply below_alloc | apply pw_below_drewN | apply below_drew1) | exact HB.out)))); (case aL => have := LMc17.out; omega); intro v342 w20 ho hb hg hat; rw [← Ny341.out] at ho; have n0_ := Aside0.mk (Kd.S_after (ok := (fun k_ => some k_ ≠ (u5 : Value).ownBlock)) (by (with_reducible repeat (first | apply Kd.S_alloc | apply Kd.S_drewN | apply Kd.S_drew)); exact HO_3.out) hg hat); have n1_ := Aside0.mk (Kd.S_after (ok := (fun k_ => some k_ ≠ (.slice (some ad337) x3_1.length co7 : Value).ownBlock)) (by (with_reducible repeat (first | apply Kd.S_alloc | apply Kd.S_drewN | apply Kd.S_drew)); exact HO_5.out) hg hat); have n2_ := Aside0.mk (Kd.R_after (ok := (fun k_ => some k_ ≠ (.slice (some ad337) x3_1.length co7 : Value).ownBlock ∧ some k_ ≠ (u5 : Value).ownBlock)) (by (with_reducible repeat (first | apply Kd.R_alloc | apply Kd.R_drewN | apply Kd.R_drew)); exact Kd.R_mono HL337_0.out (fun _ hk => ⟨⟨hk.1.2, hk.1.1⟩, hk.2⟩)) hg hat); have n3_ := Aside0.mk (hb); have n4_ := Aside0.mk (ho); clear HO_3; clear HO_5; clear HL337_0; clear HB; clear HO340; have HO_3 := n0_; have HO_5 := n1_; have HL337_0 := n2_; have HB := n3_; have HO343 := n4_; clear n0_ n1_ n2_ n3_ n4_; clear ho hb hg hat; obtain ⟨Ao22, co22, eo22⟩ := Kd.R_slice HO343.out; subst eo22) | ((with_reducible refine gate_builtin (b := .append) (xs := #[.tmp 43, .tmp 48]) rfl ?_); at_builtin; refine Kd.S_append (Kd.slice 3 (Kd.int .i64)) (w0 := w) w.heap.size rfl (.tmp 43) (.tmp 48) 23 22 (.slice none 0 0) 24 rfl Try.underlying23 info22 rfl (by decide) (by omega) u5 x5_4 y341 [.slice Ao22 y341.length co22] (fun k_ => some k_ ≠ (.slice (some ad337) x3_1.length co7 : Value).ownBlock) (fun k_ => some k_ = (.slice Ao22 y341.length co22 : Value).ownBlock) rfl rfl ?aP (fun k_ hk_ => ((Kd.R_mono (ok' := fun k_ => ((fun k_ => some k_ ≠ (.slice (some ad337) x3_1.length co7 : Value).ownBlock)) k_ ∧ some k_ ≠ (u5 : Value).ownBlock) (Kd.R_apart' (Kd.R_apart' (HO343.out) (Kd.S_typed HO_3.out) (by decide)) (Kd.S_typed HO_5.out) (by decide)) (fun k_ hk => ⟨hk.1.2, hk.2⟩))).1 k_ hk_.symm) ?aF ?aO ?aB ?aS ?aL ?_; (case aP => exact Kd.M_row (Kd.R_mono (Kd.R_tight rfl (Kd.R_mono (ok' := fun k_ => ((fun k_ => some k_ ≠ (.slice (some ad337) x3_1.length co7 : Value).ownBlock)) k_ ∧ some k_ ≠ (u5 : Value).ownBlock) (Kd.R_apart' (Kd.R_apart' (HO343.out) (Kd.S_typed HO_3.out) (by decide)) (Kd.S_typed HO_5.out) (by decide)) (fun k_ hk => ⟨hk.1.2, hk.2⟩))) (fun _ h_ => h_))); (case aB => exact (by repeat (first | (with_reducible first | exact HB.out | apply below_alloc | apply pw_below_drewN | apply below_drew1) | exact HB.out))); (case aF => exact (fun k_ hk => Kd.fresh' (Kd.S_lt (by (with_reducible repeat (first | apply Kd.S_alloc | apply Kd.S_drewN | apply Kd.S_drew)); exact HO_3.out)) k_ hk)); (case aO => exact (by (with_reducible repeat (first | apply Kd.S_alloc | apply Kd.S_drewN | apply Kd.S_drew)); exact Kd.S_mono HO_5.out (fun k_ hk => ⟨hk.1, fun e_ => hk.2 e_⟩))); (case aS => exact (below_size (by repeat (first | (with_reducible first | exact HB.out | apply below_alloc | apply pw_below_drewN | apply below_drew1) | exact HB.out)))); (case aL => have := LMc18.out; omega); intro v345 w21 ho hb hg hat; rw [← Ny344.out] at ho; have n0_ := Aside0.mk (Kd.S_after (ok := (fun k_ => some k_ ≠ (.slice Ao22 y341.length co22 : Value).ownBlock)) (by (with_reducible repeat (first | apply Kd.S_alloc | apply Kd.S_drewN | apply Kd.S_drew)); exact Kd.S_mono HO_3.out (fun _ hk => (by first | exact ⟨hk.2, hk.1⟩ | exact hk))) hg hat); have n1_ := Aside0.mk (Kd.R_after (ok := (fun k_ => some k_ ≠ (.slice (some ad337) x3_1.length co7 : Value).ownBlock ∧ some k_ ≠ (.slice Ao22 y341.length co22 : Value).ownBlock)) (by (with_reducible repeat (first | apply Kd.R_alloc | apply Kd.R_drewN | apply Kd.R_drew)); exact Kd.R_mono HL337_0.out (fun _ hk => ⟨⟨hk.1.1, hk.2⟩, hk.1.2⟩)) hg hat); have n2_ := Aside0.mk (hb); have n3_ := Aside0.mk (ho); clear HO_3; clear HL337_0; clear HB; clear HO_5; clear HO343; have HO_3 := n0_; have HL337_0 := n1_; have HB := n2_; have HO346 := n3_; clear n0_ n1_ n2_ n3_; clear ho hb hg hat))
                 go_roundg k4
                 case measure => have := HK1.out; have := HK2.out; have := HJ5.out; have := HK4.out; omega
                 case rel => exact ⟨(y344), (wrap64 (x8_4 + 1)), (by first | rfl | (simp; done) | (simp [*]; done)), H', ⟨by have := HK1.out; have := HK2.out; have := HJ5.out; have := HK4.out; omega⟩, ⟨by (with_reducible repeat (first | apply Kd.S_alloc | apply Kd.S_drewN | apply Kd.S_drew)); exact Kd.S_mono HO_3.out (fun _ hk => hk.2)⟩, ⟨by (with_reducible repeat (first | apply Kd.S_alloc | apply Kd.S_drewN | apply Kd.S_drew)); exact HO346.out⟩, ⟨by repeat (first | (with_reducible first | exact HB.out | apply below_alloc | apply pw_below_drewN | apply below_drew1) | exact HB.out)⟩⟩
                ·
                 rw [if_neg c18] at H
                 exact absurd H (by simp)
               ·
                rw [if_neg c17] at H
                exact absurd H (by simp)
              ·
               rw [if_neg c16] at H
               exact absurd H (by simp)
             ·
              rw [if_neg c15] at H
              exact absurd H (by simp)
            ·
             rw [if_neg c14] at H
             exact absurd H (by simp)
           ·
            rw [if_neg c13] at H
            have c13b0 : decide (x8_4 ≤ 30) = false := decide_eq_false c13
            clear c13
            have H' := Aside0.mk H
            clear H
            go_wp2
            go_roundg k4
            case measure => have := HK1.out; have := HK2.out; have := HJ5.out; have := HK4.out; omega
            case rel => exact ⟨(x5_4), (wrap64 (x6_2 + 1)), (by first | rfl | (simp; done) | (simp [*]; done)), H', ⟨by have := HK1.out; have := HK2.out; have := HJ5.out; have := HK4.out; omega⟩, ⟨by (with_reducible repeat (first | apply Kd.S_alloc | apply Kd.S_drewN | apply Kd.S_drew)); exact HO_3.out⟩, ⟨by (with_reducible repeat (first | apply Kd.S_alloc | apply Kd.S_drewN | apply Kd.S_drew)); exact HO_5.out⟩, ⟨by repeat (first | (with_reducible first | exact HB.out | apply below_alloc | apply pw_below_drewN | apply below_drew1) | exact HB.out)⟩⟩
      ·
       rw [if_neg c5] at H
       have c5b0 : decide (x6_2 < (x3_1.length : Int)) = false := decide_eq_false c5
       clear c5
       have H' := Aside0.mk H
       clear H
       obtain ⟨Ao23, co23, eo23⟩ := Kd.S_slice HO_3.out
       subst eo23
       go_wp2
       go_roundg k2
       case measure => have := HK1.out; have := HK2.out; omega
       case rel => exact ⟨(x5_2), (wrap64 (x4_1 + 1)), (by first | rfl | (simp; done) | (simp [*]; done)), H', ⟨by have := HK1.out; have := HK2.out; omega⟩, ⟨by (with_reducible repeat (first | apply Kd.S_alloc | apply Kd.S_drewN | apply Kd.S_drew)); exact Kd.S_mono HO_5.out (fun _ hk => trivial)⟩, ⟨by repeat (first | (with_reducible first | exact HB.out | apply below_alloc | apply pw_below_drewN | apply below_drew1) | exact HB.out)⟩⟩
   ·
    rw [if_neg c4] at H
    have c4b0 : decide (x4_1 < a0) = false := decide_eq_false c4
    clear c4
    obtain rfl := Option.some.inj H
    go_wp2
    go_ret
    exact ⟨_, by first | rfl | (simp [errW_none, errW_some] <;> rfl) | (simp [*, errW_none, errW_some] <;> rfl), by (with_reducible repeat (first | apply Kd.S_alloc | apply Kd.S_drewN | apply Kd.S_drew)); exact HO_3.out, by repeat (first | (with_reducible first | exact HB.out | apply below_alloc | apply pw_below_drewN | apply below_drew1) | exact HB.out)⟩
end Go.Proofs.Ytakbijpcfnipoaa.PA

set_option linter.unusedVariables false
set_option linter.unusedSimpArgs false
namespace Go.Proofs.Ytakbijpcfnipoaa.L
open Go.RowKit Go.Proofs.YtakbijpcfnipoaaW.PrintWords Go.Proofs.YtakbijpcfnipoaaW.PrintLast Go.Proofs.YtakbijpcfnipoaaW.PrintMore
open Go.Proofs.Ytakbijpcfnipoaa.PA Go.Proofs.Ytakbijpcfnipoaa.A Go.Proofs.Ytakbijpcfnipoaa.Lf
def ext (m : Int) (L : List (List Int)) : List (List Int) := L.flatMap fun l => (A.up (l.getLastD m)).map fun f => l ++ [f]
theorem getLastD_cons (f m : Int) (l : List Int) : (f :: l).getLastD m = l.getLastD f := by cases l <;> rfl
theorem ext_all : ∀ (j : Nat) (m : Int), ext m (allF j m) = allF (j + 1) m
  | 0, m => by
    simp [ext, allF]
    induction A.up m with
    | nil => rfl
    | cons a l ih => simp [ih]
  | j + 1, m => by
    have ih := fun f => ext_all j f
    show ext m ((A.up m).flatMap fun f => (allF j f).map (f :: ·)) = (A.up m).flatMap fun f => (allF (j + 1) f).map (f :: ·)
    unfold ext
    rw [List.flatMap_assoc]
    congr 1
    funext f
    rw [← ih f]
    unfold ext
    rw [List.map_flatMap, List.flatMap_map]
    congr 1
    funext l
    rw [getLastD_cons, List.map_map]
    rfl
theorem up_nil {f : Int} (h : 30 < f) : A.up f = [] := by
  unfold A.up
  rw [show (31 - f).toNat = 0 by omega]; rfl
theorem all_len : ∀ (j : Nat) (m : Int) (l : List Int), l ∈ allF j m → l.length = j
  | 0, m, l, h => by simp [allF] at h; simp [h]
  | j + 1, m, l, h => by
    simp only [allF, List.mem_flatMap, List.mem_map] at h
    obtain ⟨f, _, t, ht, rfl⟩ := h
    rw [List.length_cons, all_len j f t ht]
theorem all_size : ∀ i, i ≤ 3 → (allF i 0).length ≤ 6000 := by
  intro i hi
  have key : (List.range 4).all (fun i => decide ((allF i 0).length ≤ 6000)) = true := by decide +kernel
  have := List.all_eq_true.1 key i (List.mem_range.2 (by omega))
  exact of_decide_eq_true this
theorem getLastD_at {l : List Int} {i : Nat} (h : l.length = i + 1) (m : Int) : l.getLastD m = l.getD i 0 := by
  rw [List.getD_eq_getElem?_getD, List.getElem?_eq_getElem (by omega)]
  have hne : l ≠ [] := by intro e; rw [e] at h; cases h
  rw [List.getLastD_eq_getLast?, List.getLast?_eq_getElem?]
  rw [List.getElem?_eq_getElem (by omega)]
  simp [h]
theorem all_last_bd {j : Nat} {l : List Int} (h : l ∈ allF j 0) (m : Int) (hm : 0 ≤ m ∧ m ≤ 30) : 0 ≤ l.getLastD m ∧ l.getLastD m ≤ 30 := by
  have hp := allF_pos.1 h
  cases l with
  | nil => exact hm
  | cons a t =>
    have : (a :: t).getLastD m ∈ a :: t := by
      rw [List.getLastD_eq_getLast?, List.getLast?_eq_some_getLast (by simp)]
      exact List.getLast_mem _
    exact hp.rng _ this
theorem all_ev {n : Nat} (hn : n ≤ 3) : Ev (fun k => turndownref07_All.f k (n : Int)) (allF n 0) := by
  have k2 : ∀ (e i : Nat) (f : Int) (o nx : List (List Int)) (q : Nat) (r : List (List Int)), f + e = 31 → 0 ≤ f → i < 3 → q < o.length → o.length ≤ 6000 → (o.getD q []).length ≤ 10 → nx.length + e ≤ 200000 →
      Ev (fun k => turndownref07_All.l1 k (n : Int) o (i : Int) (nx ++ (A.up f).map fun g => o.getD q [] ++ [g]) ((q + 1 : Nat) : Int)) r → Ev (fun k => turndownref07_All.l2 k (n : Int) o (i : Int) nx (q : Int) f) r := by
    intro e
    induction e with
    | zero =>
      intro i f o nx q r hf h0 hi hq ho hl hnx h
      rw [up_nil (by omega)] at h
      simp only [List.map_nil, List.append_nil] at h
      refine Ev.step (fun k => ?_) h
      rw [turndownref07_All.l2, if_neg (by omega), w1 (by omega)]
    | succ e ih =>
      intro i f o nx q r hf h0 hi hq ho hl hnx h
      rw [up_lt (by omega), List.map_cons] at h
      have h' := ih i (f + 1) o (nx ++ [o.getD q [] ++ [f]]) q r (by omega) (by omega) hi hq ho hl (by simp; omega) (by rw [List.append_assoc]; exact h)
      refine Ev.step (fun k => ?_) h'
      rw [turndownref07_All.l2, if_pos (by omega), if_pos (by omega), if_pos (by omega), rdL_nat, if_pos (by simp only [List.length_nil]; omega)]
      simp only [Option.bind_some]
      rw [if_pos (by simp only [List.length_append, List.length_nil]; omega), if_pos (by omega), wrap_id (by omega) (by omega)]
      rfl
  have k1 : ∀ (e i : Nat) (nx : List (List Int)) (q : Nat) (r : List (List Int)), q + e = (allF i 0).length → i < 3 → nx.length ≤ 31 * q →
      Ev (fun k => turndownref07_All.l0 k (n : Int) (nx ++ ext 0 ((allF i 0).drop q)) ((i + 1 : Nat) : Int)) r → Ev (fun k => turndownref07_All.l1 k (n : Int) (allF i 0) (i : Int) nx (q : Int)) r := by
    intro e
    induction e with
    | zero =>
      intro i nx q r hq hi hnx h
      rw [List.drop_of_length_le (by omega)] at h
      simp only [ext, List.flatMap_nil, List.append_nil] at h
      refine Ev.step (fun k => ?_) h
      rw [turndownref07_All.l1, if_neg (by omega), w1 (by omega)]
    | succ e ih =>
      intro i nx q r hq hi hnx h
      have hql : q < (allF i 0).length := by omega
      have hsz := all_size i (by omega)
      have hmem : (allF i 0).getD q [] ∈ allF i 0 := by rw [List.getD_eq_getElem?_getD, List.getElem?_eq_getElem hql]; exact List.getElem_mem hql
      have hlen := all_len i 0 _ hmem
      have hbd := all_last_bd hmem 0 (by omega)
      have e1 : ext 0 ((allF i 0).drop q) = ((A.up (((allF i 0).getD q []).getLastD 0)).map fun f => (allF i 0).getD q [] ++ [f]) ++ ext 0 ((allF i 0).drop (q + 1)) := by
        rw [drop_cons hql []]
        simp only [ext, List.flatMap_cons]
      rw [e1, ← List.append_assoc] at h
      obtain ⟨m, hm⟩ : ∃ m, ((allF i 0).getD q []).getLastD 0 = m := ⟨_, rfl⟩
      rw [hm] at h hbd
      have hupl : (A.up m).length ≤ 31 := by unfold A.up; simp; omega
      have h1 := ih i (nx ++ (A.up m).map fun f => (allF i 0).getD q [] ++ [f]) (q + 1) r (by omega) hi (by simp; omega) h
      have h2 := k2 (31 - m).toNat i m (allF i 0) nx q r (by omega) hbd.1 hi hql hsz (by omega) (by omega) h1
      refine Ev.step (fun k => ?_) (Ev.step (g := fun k => turndownref07_All.j2 k (n : Int) (allF i 0) (i : Int) nx (q : Int) m) (fun k => by rw [turndownref07_All.j2]) h2)
      rw [turndownref07_All.l1, if_pos (by omega)]
      cases i with
      | zero =>
        rw [if_neg (by omega)]
        have : m = 0 := by
          rw [← hm]
          have e0 : (allF 0 0).getD q [] = [] := List.eq_nil_of_length_eq_zero hlen
          rw [e0]; rfl
        rw [this]
      | succ i =>
        rw [if_pos (by omega), if_pos (by omega), wm (by omega), if_pos (by omega), if_pos (by rw [rdL_nat, hlen]; omega), rdL_nat, rd_nat, ← getLastD_at hlen 0, hm]
  have k0 : ∀ (e i : Nat), i + e = n → Ev (fun k => turndownref07_All.l0 k (n : Int) (allF i 0) (i : Int)) (allF n 0) := by
    intro e
    induction e with
    | zero =>
      intro i hi
      obtain rfl : i = n := by omega
      exact Ev.step (fun k => by rw [turndownref07_All.l0, if_neg (by omega)]) (Ev.now _)
    | succ e ih =>
      intro i hi
      refine Ev.step (fun k => ?_) (k1 (allF i 0).length i [] 0 _ (by omega) (by omega) (by simp) ?_)
      · rw [turndownref07_All.l0, if_pos (by omega)]; rfl
      · rw [List.drop_zero, List.nil_append, ext_all]
        exact ih (i + 1) (by omega)
  exact k0 n 0 (by omega)
end Go.Proofs.Ytakbijpcfnipoaa.L

set_option linter.unusedVariables false
set_option linter.unusedSimpArgs false
namespace Go.Proofs.Ytakbijpcfnipoaa.L
open Go.RowKit Go.Proofs.YtakbijpcfnipoaaW.PrintWords Go.Proofs.YtakbijpcfnipoaaW.PrintLast Go.Proofs.YtakbijpcfnipoaaW.PrintMore
open Go.Proofs.Ytakbijpcfnipoaa.PA Go.Proofs.Ytakbijpcfnipoaa.A Go.Proofs.Ytakbijpcfnipoaa.Lf
theorem insert_ev {l : List Int} (hl : l.length ≤ 1000) (x : Int) : Ev (fun k => turndownref07_insert.f k l x) (ins x l) := by
  have fin : ∀ q, q ≤ l.length → (if ([] : List Int).length + (l.take ((q : Int)).toNat).length < 17592186044416 then ((some (([] : List Int) ++ (l.take ((q : Int)).toNat) : List Int)).bind fun y => (if y.length < 17592186044416 then ((some (y ++ [x] : List Int)).bind fun z => (if z.length + (l.drop ((q : Int)).toNat).length < 17592186044416 then (some (z ++ (l.drop ((q : Int)).toNat))) else (none))) else (none))) else (none)) = some (l.take q ++ x :: l.drop q) := by
    intro q hq
    have h1 : (l.take q).length ≤ 1000 := by rw [List.length_take]; omega
    have h2 : (l.drop q).length ≤ 1000 := by rw [List.length_drop]; omega
    rw [Int.toNat_natCast, if_pos (by simp only [List.length_nil]; omega)]
    simp only [Option.bind_some, List.nil_append]
    rw [if_pos (by omega), if_pos (by simp only [List.length_append, List.length_cons, List.length_nil]; omega)]
    simp
  have key : ∀ e q, q + e = l.length → Ev (fun k => turndownref07_insert.l0 k l x (q : Int)) (l.take q ++ ins x (l.drop q)) := by
    intro e
    induction e with
    | zero =>
      intro q hq
      refine Ev.step (fun k => ?_) (Ev.now _)
      have := fin q (by omega)
      rw [turndownref07_insert.l0, if_neg (by omega), if_pos (by omega), if_pos (by omega), this, List.drop_of_length_le (by omega)]
      rfl
    | succ e ih =>
      intro q hq
      have hql : q < l.length := by omega
      have h1 := ih (q + 1) (by omega)
      have hf := fin q (by omega)
      have hs : ∀ k, turndownref07_insert.l0 (k + 1) l x (q : Int) = if l.getD q 0 ≤ x then turndownref07_insert.l0 k l x ((q + 1 : Nat) : Int) else some (l.take q ++ x :: l.drop q) := fun k => by
        rw [turndownref07_insert.l0, if_pos (by omega), if_pos (by omega), rd_nat, w1 (by omega), if_pos (show (q : Int) ≤ (l.length : Int) by omega), hf]
      have hd := drop_cons hql 0
      have ht : l.take (q + 1) = l.take q ++ [l.getD q 0] := by
        rw [List.take_add_one, List.getElem?_eq_getElem hql, List.getD_eq_getElem?_getD, List.getElem?_eq_getElem hql]; rfl
      by_cases c : l.getD q 0 ≤ x
      · refine Ev.step (fun k => by rw [hs, if_pos c]) (Ev.cong h1 ?_)
        rw [hd, ht, ins, if_pos c, List.append_assoc]; rfl
      · refine Ev.step (fun k => by rw [hs, if_neg c]) (Ev.cong (Ev.now _) ?_)
        rw [hd, ins, if_neg c]
  exact key l.length 0 (by omega)
theorem ins_last {x : Int} : ∀ {l : List Int}, (∀ y ∈ l, y ≤ x) → ins x l = l ++ [x]
  | [], _ => rfl
  | y :: l, h => by
    unfold ins
    rw [if_pos (h y (by simp)), ins_last (fun z hz => h z (by simp [hz]))]
    rfl
theorem srt_take_le {A : List Int} (hA : Srt A) {p : Nat} (hp : p < A.length) : ∀ y ∈ A.take p, y ≤ A.getD p 0 := by
  intro y hy
  obtain ⟨j, hj, rfl⟩ := List.getElem_of_mem hy
  rw [List.length_take] at hj
  rw [List.getElem_take, List.getD_eq_getElem?_getD, List.getElem?_eq_getElem hp]
  exact List.pairwise_iff_getElem.1 hA j p (by omega) hp (by omega)
theorem moved_ev {l : List Int} (hl : l.length ≤ 1000) (hs : Srt l) {i : Nat} (hi : i < l.length) (f : Int) : Ev (fun k => turndownref07_Moved.f k l (i : Int) f) (moved l i f) := by
  have hA := erase_srt hs i
  have hAl : (l.eraseIdx i).length = l.length - 1 := List.length_eraseIdx_of_lt hi
  unfold moved
  have hel : ∀ q, q < l.length → q ≠ i → ∀ p, p = (if q < i then q else q - 1) → (l.eraseIdx i).getD p 0 = l.getD q 0 := by
    intro q hq hqi p hp
    rw [List.getD_eq_getElem?_getD, List.getD_eq_getElem?_getD, List.getElem?_eraseIdx]
    subst hp
    by_cases c : q < i
    · rw [if_pos c, if_pos c]
    · rw [if_neg c, if_neg (by omega)]
      rw [show q - 1 + 1 = q by omega]
  obtain ⟨A, hAe⟩ : ∃ A, l.eraseIdx i = A := ⟨_, rfl⟩
  rw [hAe] at hA hAl hel ⊢
  have key : ∀ e q, q + e = l.length → Ev (fun k => turndownref07_Moved.l0 k l (i : Int) f (A.take (if q ≤ i then q else q - 1)) (q : Int)) (ins f A) := by
    intro e
    induction e with
    | zero =>
      intro q hq
      rw [if_neg (by omega), List.take_of_length_le (by omega)]
      refine Ev.step (fun k => ?_) (Ev.bind (f := fun _ t => some t) (insert_ev (by omega) f) (Ev.now _))
      rw [turndownref07_Moved.l0, if_neg (by omega)]
    | succ e ih =>
      intro q hq
      have h1 := ih (q + 1) (by omega)
      by_cases c : q = i
      · subst c
        rw [if_pos (Nat.le_refl _)]
        rw [if_neg (by omega), show q + 1 - 1 = q by omega] at h1
        refine Ev.step (fun k => ?_) h1
        rw [turndownref07_Moved.l0, if_pos (by omega), if_pos rfl, w1 (by omega)]
      · obtain ⟨p, hp⟩ : ∃ p, (if q ≤ i then q else q - 1) = p := ⟨_, rfl⟩
        have hp2 : p = (if q < i then q else q - 1) := by
          rw [← hp]
          by_cases c2 : q ≤ i
          · rw [if_pos c2, if_pos (by omega)]
          · rw [if_neg c2, if_neg (by omega)]
        have hp3 : (if q + 1 ≤ i then q + 1 else q + 1 - 1) = p + 1 := by
          rw [hp2]
          by_cases c2 : q < i
          · rw [if_pos (by omega), if_pos c2]
          · rw [if_neg (by omega), if_neg c2]; omega
        have hpl : p < A.length := by
          rw [hp2, hAl]
          by_cases c2 : q < i
          · rw [if_pos c2]; omega
          · rw [if_neg c2]; omega
        have hx := hel q (by omega) c p hp2
        rw [hp3] at h1
        rw [hp]
        have ht : A.take (p + 1) = ins (l.getD q 0) (A.take p) := by
          rw [← hx, ins_last (srt_take_le hA hpl), List.take_add_one, List.getElem?_eq_getElem hpl, List.getD_eq_getElem?_getD, List.getElem?_eq_getElem hpl]; rfl
        rw [ht] at h1
        refine Ev.step (fun k => ?_) (Ev.bind (f := fun k t => turndownref07_Moved.l0 k l (i : Int) f t ((q + 1 : Nat) : Int)) (insert_ev (l := A.take p) (by rw [List.length_take]; omega) (l.getD q 0)) h1)
        rw [turndownref07_Moved.l0, if_pos (by omega), if_neg (by omega), if_pos (by omega), rd_nat, w1 (by omega)]
  refine Ev.cong (key l.length 0 (by omega)) rfl
def codeI (l : List Int) : Int := l.foldl (fun n x => n * 31 + x) 0
theorem code_bd {k : Nat} (hk : k ≤ 3) {x : List Int} (hx : Pos k x) : 0 ≤ codeI x ∧ codeI x < 29791 := by
  have hl := hx.len
  have hr := hx.rng
  match x, hl, hr with
  | [], _, _ => simp [codeI]
  | [a], _, hr =>
    have := hr a (by simp)
    simp [codeI]; omega
  | [a, b], _, hr =>
    have := hr a (by simp)
    have := hr b (by simp)
    simp [codeI]; omega
  | [a, b, c], _, hr =>
    have := hr a (by simp)
    have := hr b (by simp)
    have := hr c (by simp)
    simp [codeI]; omega
  | a :: b :: c :: d :: l, hl, _ => simp at hl; omega
theorem code_inj {k : Nat} (hk : k ≤ 3) {x y : List Int} (hx : Pos k x) (hy : Pos k y) (e : codeI x = codeI y) : x = y := by
  have hl := hx.len
  have hm := hy.len
  have hr := hx.rng
  have hs := hy.rng
  match x, y, hl, hm, hr, hs, e with
  | [], [], _, _, _, _, _ => rfl
  | [], b :: m, hl, hm, _, _, _ => simp at hl hm; omega
  | a :: l, [], hl, hm, _, _, _ => simp at hl hm; omega
  | [a], [b], _, _, hr, hs, e => simp [codeI] at e; rw [e]
  | [a], b :: b2 :: m, hl, hm, _, _, _ => simp at hl hm; omega
  | a :: a2 :: l, [b], hl, hm, _, _, _ => simp at hl hm; omega
  | [a, a2], [b, b2], _, _, hr, hs, e =>
    have := hr a (by simp)
    have := hr a2 (by simp)
    have := hs b (by simp)
    have := hs b2 (by simp)
    simp [codeI] at e
    obtain rfl : a = b := by omega
    obtain rfl : a2 = b2 := by omega
    rfl
  | [a, a2], b :: b2 :: b3 :: m, hl, hm, _, _, _ => simp at hl hm; omega
  | a :: a2 :: a3 :: l, [b, b2], hl, hm, _, _, _ => simp at hl hm; omega
  | [a, a2, a3], [b, b2, b3], _, _, hr, hs, e =>
    have := hr a (by simp)
    have := hr a2 (by simp)
    have := hr a3 (by simp)
    have := hs b (by simp)
    have := hs b2 (by simp)
    have := hs b3 (by simp)
    simp [codeI] at e
    obtain rfl : a = b := by omega
    obtain rfl : a2 = b2 := by omega
    obtain rfl : a3 = b3 := by omega
    rfl
  | a :: a2 :: a3 :: a4 :: l, y, hl, hm, _, _, _ => simp at hl; omega
  | x, a :: a2 :: a3 :: a4 :: l, hl, hm, _, _, _ => simp at hm; omega
theorem code_ev {k : Nat} (hk : k ≤ 3) {x : List Int} (hx : Pos k x) : Ev (fun n => turndownref07_Code.f n x) (codeI x) := by
  have hl := hx.len
  have hr := hx.rng
  have w01 : wrap64 1 = 1 := by unfold wrap64; omega
  have w12 : wrap64 2 = 2 := by unfold wrap64; omega
  have w23 : wrap64 3 = 3 := by unfold wrap64; omega
  have w00 : wrap64 0 = 0 := by unfold wrap64; omega
  match x, hl, hr with
  | [], _, _ =>
    refine ⟨2, fun n hn => ?_⟩
    obtain ⟨n, rfl⟩ : ∃ j, n = j + 2 := ⟨n - 2, by omega⟩
    simp [turndownref07_Code.f, turndownref07_Code.l0, codeI]
  | [a], _, hr =>
    have := hr a (by simp)
    have e1 : wrap64 a = a := by unfold wrap64; omega
    refine ⟨3, fun n hn => ?_⟩
    obtain ⟨n, rfl⟩ : ∃ j, n = j + 3 := ⟨n - 3, by omega⟩
    simp [turndownref07_Code.f, turndownref07_Code.l0, codeI, rd, w00, w01, e1]
  | [a, b], _, hr =>
    have := hr a (by simp)
    have := hr b (by simp)
    have e1 : wrap64 a = a := by unfold wrap64; omega
    have e2 : wrap64 (wrap64 (a * 31) + b) = a * 31 + b := by unfold wrap64; omega
    refine ⟨4, fun n hn => ?_⟩
    obtain ⟨n, rfl⟩ : ∃ j, n = j + 4 := ⟨n - 4, by omega⟩
    simp [turndownref07_Code.f, turndownref07_Code.l0, codeI, rd, w00, w01, w12, e1, e2]
  | [a, b, c], _, hr =>
    have := hr a (by simp)
    have := hr b (by simp)
    have := hr c (by simp)
    have e1 : wrap64 a = a := by unfold wrap64; omega
    have e2 : wrap64 (wrap64 (a * 31) + b) = a * 31 + b := by unfold wrap64; omega
    have e3 : wrap64 (wrap64 ((a * 31 + b) * 31) + c) = (a * 31 + b) * 31 + c := by unfold wrap64; omega
    refine ⟨5, fun n hn => ?_⟩
    obtain ⟨n, rfl⟩ : ∃ j, n = j + 5 := ⟨n - 5, by omega⟩
    simp [turndownref07_Code.f, turndownref07_Code.l0, codeI, rd, w00, w01, w12, w23, e1, e2, e3]
  | a :: b :: c :: d :: l, hl, _ => simp at hl; omega
def Tab (n : Nat) (m : List Int → Int) (T : List Int) : Prop := T.length = 29791 ∧ ∀ x, Pos n x → T.getD (codeI x).toNat 0 = m x
theorem tab_set {n : Nat} (hn : n ≤ 3) {m : List Int → Int} {T : List Int} (hl : T.length = 29791) {L : List (List Int)} (h : ∀ x, x ∈ L → Pos n x → T.getD (codeI x).toNat 0 = m x) {y : List Int} (hy : Pos n y) :
    ∀ x, x ∈ L ++ [y] → Pos n x → (T.set (codeI y).toNat (m y)).getD (codeI x).toNat 0 = m x := by
  intro x hx hp
  have hb := code_bd hn hp
  have hb' := code_bd hn hy
  rw [List.getD_eq_getElem?_getD, List.getElem?_set]
  by_cases e : (codeI y).toNat = (codeI x).toNat
  · have hxy := code_inj hn hy hp (by omega)
    subst hxy
    rw [if_pos rfl, if_pos (by omega)]; rfl
  · rw [if_neg e, ← List.getD_eq_getElem?_getD]
    rcases List.mem_append.1 hx with hx | hx
    · exact h x hx hp
    · rw [List.mem_singleton.1 hx] at e; exact absurd rfl e
theorem all_at {n q : Nat} (hq : q < (allF n 0).length) : Pos n ((allF n 0).getD q []) := by
  rw [List.getD_eq_getElem?_getD, List.getElem?_eq_getElem hq]
  exact allF_pos.1 (List.getElem_mem hq)
theorem take_snoc_d {α : Type} {l : List α} {q : Nat} (h : q < l.length) (d : α) : l.take (q + 1) = l.take q ++ [l.getD q d] := by
  rw [List.take_add_one, List.getElem?_eq_getElem h, List.getD_eq_getElem?_getD, List.getElem?_eq_getElem h]; rfl
theorem first_ev {n : Nat} (hn : n ≤ 3) {s : List Int} (hs : Pos n s) : ∃ T, Ev (fun k => turndownref07_First.f k (allF n 0) s) T ∧ Tab n (dist s) T := by
  have hsz := all_size n hn
  have key : ∀ e q (T : List Int), q + e = (allF n 0).length → T.length = 29791 → (∀ x, x ∈ (allF n 0).take q → Pos n x → T.getD (codeI x).toNat 0 = dist s x) → ∃ T', Ev (fun k => turndownref07_First.l0 k (allF n 0) s T (q : Int)) T' ∧ Tab n (dist s) T' := by
    intro e
    induction e with
    | zero =>
      intro q T hq hl h
      rw [List.take_of_length_le (by omega)] at h
      exact ⟨T, Ev.step (fun k => by rw [turndownref07_First.l0, if_neg (by omega)]) (Ev.now _), hl, fun x hx => h x (allF_pos.2 hx) hx⟩
    | succ e ih =>
      intro q T hq hl h
      have hql : q < (allF n 0).length := by omega
      have hp := all_at hql
      have hb := code_bd hn hp
      have h2 := tab_set hn hl h hp
      rw [← take_snoc_d hql []] at h2
      obtain ⟨T', h3, h4⟩ := ih (q + 1) (T.set (codeI ((allF n 0).getD q [])).toNat (dist s ((allF n 0).getD q []))) (by omega) (by simpa using hl) h2
      refine ⟨T', ?_, h4⟩
      refine Ev.step (fun k => ?_) (Ev.bind (f := fun k c => (turndownref07_Distance.f k s ((allF n 0).getD q [])).bind fun d => (if 0 ≤ c then (if c < (T.length : Int) then (turndownref07_First.l0 k (allF n 0) s (T.set (c : Int).toNat d) ((q + 1 : Nat) : Int)) else (none)) else (none))) (code_ev hn hp) (Ev.bind (f := fun k d => (if 0 ≤ codeI ((allF n 0).getD q []) then (if codeI ((allF n 0).getD q []) < (T.length : Int) then (turndownref07_First.l0 k (allF n 0) s (T.set (codeI ((allF n 0).getD q [])).toNat d) ((q + 1 : Nat) : Int)) else (none)) else (none))) (distance_ev (by rw [hs.len, hp.len]) (by rw [hs.len]; omega) hs.rng hp.rng) ?_))
      · rw [turndownref07_First.l0, if_pos (by omega), if_pos (by omega), rdL_nat, w1 (by omega)]
      · simp only [if_pos hb.1]
        rw [hl]
        simp only [if_pos (show codeI ((allF n 0).getD q []) < ((29791 : Nat) : Int) by omega)]
        exact h3
  obtain ⟨T, h1, h2⟩ := key (allF n 0).length 0 (List.replicate 29791 0) (by omega) (by rw [List.length_replicate]) (fun x hx => by simp at hx)
  refine ⟨T, Ev.congr (fun k => ?_) h1, h2⟩
  rw [turndownref07_First.f, if_pos (by omega)]
  rfl
end Go.Proofs.Ytakbijpcfnipoaa.L

set_option linter.unusedVariables false
set_option linter.unusedSimpArgs false
namespace Go.Proofs.Ytakbijpcfnipoaa.L
open Go.RowKit Go.Proofs.YtakbijpcfnipoaaW.PrintWords Go.Proofs.YtakbijpcfnipoaaW.PrintLast Go.Proofs.YtakbijpcfnipoaaW.PrintMore
open Go.Proofs.Ytakbijpcfnipoaa.PA Go.Proofs.Ytakbijpcfnipoaa.A Go.Proofs.Ytakbijpcfnipoaa.Lf
theorem getD_fl2 {k : Nat} {x : List Int} (h : Pos k x) {i : Nat} (hi : i < k) : Fl (x.getD i 0) := fl_getD h.rng (by rw [h.len]; exact hi)
theorem next_ev {n : Nat} (hn1 : 1 ≤ n) (hn : n ≤ 3) {m : List Int → Int} (hm : ∀ x, Pos n x → 0 ≤ m x ∧ m x ≤ 100000) {T : List Int} (hT : Tab n m T) {f : Int} (hf : Fl f) : ∃ T', Ev (fun k => turndownref07_Next.f k (allF n 0) T f) T' ∧ Tab n (nxt n m f) T' := by
  have hsz := all_size n hn
  obtain ⟨hTl, hTm⟩ := hT
  have k1 : ∀ e i (best : Int) (q : Nat) (U : List Int) (r : List Int), i + e = n → (hq : q < (allF n 0).length) → U.length = 29791 →
      best = (if i = 0 then -1 else least (fun j => m (moved ((allF n 0).getD q []) j f) + ab (((allF n 0).getD q []).getD j 0) f) (i - 1)) →
      Ev (fun k => turndownref07_Next.l0 k (allF n 0) T f (U.set (codeI ((allF n 0).getD q [])).toNat (nxt n m f ((allF n 0).getD q []))) ((q + 1 : Nat) : Int)) r → Ev (fun k => turndownref07_Next.l1 k (allF n 0) T f U (q : Int) best (i : Int)) r := by
    intro e
    induction e with
    | zero =>
      intro i best q U r hi hq hU hbest h
      have hp := all_at hq
      have hb := code_bd hn hp
      have hi' : i = n := by omega
      subst hi'
      rw [if_neg (by omega)] at hbest
      have hbe : best = nxt i m f ((allF i 0).getD q []) := hbest
      rw [← hbe] at h
      refine Ev.step (fun k => ?_) (Ev.bind (f := fun k c => (if 0 ≤ c then (if c < (U.length : Int) then (turndownref07_Next.l0 k (allF i 0) T f (U.set (c : Int).toNat best) ((q + 1 : Nat) : Int)) else (none)) else (none))) (code_ev hn hp) ?_)
      · rw [turndownref07_Next.l1, if_pos (by omega), if_pos (by omega), rdL_nat, hp.len, if_neg (by omega), w1 (by omega)]
      · simp only [if_pos hb.1]
        rw [hU]
        simp only [if_pos (show codeI ((allF i 0).getD q []) < ((29791 : Nat) : Int) by omega)]
        exact h
    | succ e ih =>
      intro i best q U r hi hq hU hbest h
      have hp := all_at hq
      obtain ⟨x, hx⟩ : ∃ x, (allF n 0).getD q [] = x := ⟨_, rfl⟩
      have ih' := fun best' hb' => ih (i + 1) best' q U r (by omega) hq hU hb' h
      rw [hx] at hp hbest ih'
      have hin : i < n := by omega
      have hxl := hp.len
      have hmv := moved_ev (l := x) (by omega) hp.srt (i := i) (by omega) f
      have hmp : Pos n (moved x i f) := hp.moved hin hf.1 hf.2
      have hcb := code_bd hn hmp
      have hmb := hm _ hmp
      have hfx := getD_fl2 hp hin
      have hab : 0 ≤ ab (x.getD i 0) f ∧ ab (x.getD i 0) f ≤ 30 := by
        obtain ⟨a, b⟩ := hfx; obtain ⟨c, d⟩ := hf; unfold ab; omega
      have hrd : rd T (codeI (moved x i f)) = m (moved x i f) := hTm _ hmp
      have hw : wrap64 (rd T (codeI (moved x i f)) + mx (wrap64 (x.getD i 0 - f)) (wrap64 (f - x.getD i 0))) = m (moved x i f) + ab (x.getD i 0) f := by
        rw [hrd, mx_ab hfx hf, wrap_id (by omega) (by omega)]
      obtain ⟨g, hg⟩ : ∃ g : Nat → Int, g = fun j => m (moved x j f) + ab (x.getD j 0) f := ⟨_, rfl⟩
      have hgi : m (moved x i f) + ab (x.getD i 0) f = g i := by rw [hg]
      rw [← hg] at hbest ih'
      rw [hgi] at hw
      have hg0 : 0 ≤ g i := by rw [← hgi]; omega
      refine Ev.step (fun k => ?_) (Ev.bind (f := fun k mv => (turndownref07_Code.f k mv).bind fun c => (if 0 ≤ c then (if c < (T.length : Int) then (if best < 0 then (turndownref07_Next.l1 k (allF n 0) T f U (q : Int) (wrap64 (rd T c + mx (wrap64 (x.getD i 0 - f)) (wrap64 (f - x.getD i 0)))) ((i + 1 : Nat) : Int)) else (if (wrap64 (rd T c + mx (wrap64 (x.getD i 0 - f)) (wrap64 (f - x.getD i 0)))) < best then (turndownref07_Next.l1 k (allF n 0) T f U (q : Int) (wrap64 (rd T c + mx (wrap64 (x.getD i 0 - f)) (wrap64 (f - x.getD i 0)))) ((i + 1 : Nat) : Int)) else (turndownref07_Next.l1 k (allF n 0) T f U (q : Int) best ((i + 1 : Nat) : Int)))) else (none)) else (none))) hmv (Ev.bind (f := fun k c => (if 0 ≤ c then (if c < (T.length : Int) then (if best < 0 then (turndownref07_Next.l1 k (allF n 0) T f U (q : Int) (wrap64 (rd T c + mx (wrap64 (x.getD i 0 - f)) (wrap64 (f - x.getD i 0)))) ((i + 1 : Nat) : Int)) else (if (wrap64 (rd T c + mx (wrap64 (x.getD i 0 - f)) (wrap64 (f - x.getD i 0)))) < best then (turndownref07_Next.l1 k (allF n 0) T f U (q : Int) (wrap64 (rd T c + mx (wrap64 (x.getD i 0 - f)) (wrap64 (f - x.getD i 0)))) ((i + 1 : Nat) : Int)) else (turndownref07_Next.l1 k (allF n 0) T f U (q : Int) best ((i + 1 : Nat) : Int)))) else (none)) else (none))) (code_ev hn hmp) ?_))
      · rw [turndownref07_Next.l1, if_pos (by omega), if_pos (by omega), rdL_nat, hx, hxl, if_pos (by omega), if_pos (by omega), rd_nat, w1 (by omega)]
      · rw [hTl]
        simp only [if_pos hcb.1, if_pos (show codeI (moved x i f) < ((29791 : Nat) : Int) by omega), hw]
        by_cases i0 : i = 0
        · subst i0
          rw [if_pos rfl] at hbest
          simp only [if_pos (show best < 0 by omega)]
          exact ih' _ (by rw [if_neg (by omega)]; rfl)
        · rw [if_neg i0] at hbest
          obtain ⟨j, hj, hje⟩ := least_is g (i - 1)
          have hjn : j < n := by omega
          have hgj : 0 ≤ g j := by
            rw [hg]
            have := hm _ (hp.moved hjn hf.1 hf.2)
            have := ab_nonneg (x.getD j 0) f
            show 0 ≤ m (moved x j f) + ab (x.getD j 0) f
            omega
          have hls : least g (i + 1 - 1) = min (least g (i - 1)) (g i) := by
            obtain ⟨i', rfl⟩ : ∃ i', i = i' + 1 := ⟨i - 1, by omega⟩
            rfl
          simp only [if_neg (show ¬ best < 0 by omega)]
          by_cases c : g i < best
          · simp only [if_pos c]
            exact ih' _ (by rw [if_neg (by omega), hls]; omega)
          · simp only [if_neg c]
            exact ih' _ (by rw [if_neg (by omega), hls]; omega)
  have key : ∀ e q (U : List Int), q + e = (allF n 0).length → U.length = 29791 → (∀ x, x ∈ (allF n 0).take q → Pos n x → U.getD (codeI x).toNat 0 = nxt n m f x) → ∃ T', Ev (fun k => turndownref07_Next.l0 k (allF n 0) T f U (q : Int)) T' ∧ Tab n (nxt n m f) T' := by
    intro e
    induction e with
    | zero =>
      intro q U hq hl h
      rw [List.take_of_length_le (by omega)] at h
      exact ⟨U, Ev.step (fun k => by rw [turndownref07_Next.l0, if_neg (by omega)]) (Ev.now _), hl, fun x hx => h x (allF_pos.2 hx) hx⟩
    | succ e ih =>
      intro q U hq hl h
      have hql : q < (allF n 0).length := by omega
      have h2 := tab_set hn hl h (all_at hql)
      rw [← take_snoc_d hql []] at h2
      obtain ⟨T', h3, h4⟩ := ih (q + 1) _ (by omega) (by simpa using hl) h2
      refine ⟨T', Ev.step (fun k => ?_) (k1 n 0 (-1) q U T' (by omega) hql hl (by rw [if_pos rfl]) h3), h4⟩
      rw [turndownref07_Next.l0, if_pos (by omega)]; rfl
  obtain ⟨T', h1, h2⟩ := key (allF n 0).length 0 (List.replicate 29791 0) (by omega) (by rw [List.length_replicate]) (fun x hx => by simp at hx)
  refine ⟨T', Ev.congr (fun k => ?_) h1, h2⟩
  rw [turndownref07_Next.f, if_pos (by omega), hTl, if_pos (by omega)]
  rfl
end Go.Proofs.Ytakbijpcfnipoaa.L

set_option linter.unusedVariables false
set_option linter.unusedSimpArgs false
namespace Go.Proofs.Ytakbijpcfnipoaa.L
open Go.RowKit Go.Proofs.YtakbijpcfnipoaaW.PrintWords Go.Proofs.YtakbijpcfnipoaaW.PrintLast Go.Proofs.YtakbijpcfnipoaaW.PrintMore
open Go.Proofs.Ytakbijpcfnipoaa.PA Go.Proofs.Ytakbijpcfnipoaa.A Go.Proofs.Ytakbijpcfnipoaa.Lf
theorem ins_low {f : Int} {l : List Int} (h : ∀ y ∈ l, f < y) : ins f l = f :: l := by
  cases l with
  | nil => rfl
  | cons y l => unfold ins; rw [if_neg (by have := h y (by simp); omega)]
theorem moved_low {s : List Int} (hs : Srt s) (hl : 0 < s.length) {f : Int} (h : f < s.getD 0 0) : moved s 0 f = s.set 0 f := by
  cases s with
  | nil => simp at hl
  | cons a t =>
    have ha : f < a := h
    have ht := (List.pairwise_cons.1 hs).1
    show ins f t = f :: t
    exact ins_low (fun y hy => by have := ht y hy; omega)
theorem moved_high {s : List Int} (hs : Srt s) (hl : 0 < s.length) {f : Int} (h : s.getD (s.length - 1) 0 < f) : moved s (s.length - 1) f = s.set (s.length - 1) f := by
  obtain ⟨t, a, rfl⟩ : ∃ t a, s = t ++ [a] := ⟨s.dropLast, s.getLast (by intro e; rw [e] at hl; simp at hl), (List.dropLast_concat_getLast _).symm⟩
  have e1 : (t ++ [a]).length - 1 = t.length := by simp
  rw [e1] at h ⊢
  have ha : (t ++ [a]).getD t.length 0 = a := by simp
  rw [ha] at h
  have e2 : (t ++ [a]).eraseIdx t.length = t := by
    rw [List.eraseIdx_append_of_length_le (Nat.le_refl _)]; simp
  unfold moved
  rw [e2]
  have hle : ∀ y ∈ t, y ≤ f := fun y hy => by
    have := (List.pairwise_append.1 hs).2.2 y hy a (by simp)
    omega
  rw [ins_last hle, List.set_append_right _ _ (Nat.le_refl _)]
  simp
theorem serve_low {s : List Int} {f : Int} (hf : s.contains f = false) (h : f < s.getD 0 0) : Lf.serve s f = s.set 0 f := by
  unfold Lf.serve; rw [hf, if_neg (by simp), if_pos h]
theorem serve_high {s : List Int} {f : Int} (hf : s.contains f = false) (h0 : ¬ f < s.getD 0 0) (h : s.getD (s.length - 1) 0 < f) : Lf.serve s f = s.set (s.length - 1) f := by
  unfold Lf.serve; rw [hf, if_neg (by simp), if_neg h0, if_pos h]
theorem upOf_ok {f : Int} : ∀ {s : List Int}, (∃ y ∈ s, f < y) → upOf f s < s.length ∧ f < s.getD (upOf f s) 0 ∧ ∀ j, j < upOf f s → s.getD j 0 ≤ f
  | [], h => by obtain ⟨y, hy, _⟩ := h; cases hy
  | x :: l, h => by
    by_cases c : f < x
    · have e : upOf f (x :: l) = 0 := by unfold upOf; rw [if_pos c]
      rw [e]
      exact ⟨by simp, c, fun j hj => absurd hj (Nat.not_lt_zero _)⟩
    · have e : upOf f (x :: l) = upOf f l + 1 := by
        conv => lhs; unfold upOf
        rw [if_neg c]
      obtain ⟨y, hy, hfy⟩ := h
      have ih := upOf_ok (f := f) (s := l) ⟨y, by rcases List.mem_cons.1 hy with rfl | hy; exact absurd hfy c; exact hy, hfy⟩
      rw [e]
      refine ⟨by simp; omega, ih.2.1, fun j hj => ?_⟩
      cases j with
      | zero => show x ≤ f; omega
      | succ j => exact ih.2.2 j (by omega)
theorem addr0 (ad : Addr) : ad.add 0 = ad := by unfold Addr.add; simp
def SvPost (A : Option Addr) (ca : Nat) (s : List Int) (f : Int) (w : World) (e : Ending) (w' : World) : Prop :=
  ∃ v, e = .returned v ∧ ((v = .slice A s.length ca ∧ Lf.serve s f = s) ∨ Kd.R (Kd.int .i64) 3 w' w.heap.size (fun _ => True) v (Lf.serve s f)) ∧ Below w.heap.size w w'
theorem drewN_below (w : World) (n : Nat) : Below w.heap.size w (w.drewN n) := (Drawn0.mk ⟨n, rfl⟩).below
attribute [local go_sem] max2_int min2_int max_two min_two
set_option maxHeartbeats 8000000 in
set_option maxRecDepth 100000 in
theorem refServe_c (A : Option Addr) (ca : Nat) (s : List Int) (w : World) (hr : Kd.C (Kd.int .i64) w A s.length s) (hca : s.length ≤ ca) (hk1 : 1 ≤ s.length) (hk3 : s.length ≤ 3) (hs : Pos s.length s) (f : Int) (hf : Fl f) :
    Calls Try.prog 61 #[.slice A s.length ca, .int .i64 f] w (SvPost A ca s f w) := by
  obtain ⟨ad, rfl, hM⟩ := mem1 hr (by omega)
  obtain ⟨P, hP⟩ : ∃ P, P = SvPost (some ad) ca s f w := ⟨_, rfl⟩
  have HP := Lib.hid hP
  rw [← hP]
  have HHAS : Hid (Calls Try.prog 50 #[.slice (some ad) s.length ca, .int .i64 f] w fun e w' => e = .returned (.bool (s.contains f)) ∧ ∃ n, w' = w.drewN n) := Lib.hid (by
    obtain ⟨k, hk⟩ := Ev.rounds (has_ev (l := s) (by omega) f)
    exact (turndownref07_has.calls k (some ad) ca s f _ w hr hca hk).mono fun e w' ⟨he, hd⟩ => ⟨he, hd.out⟩)
  have HCE : Hid (∀ m i, i < s.length → (w.drewN m).cell? (ad.add i) = some (.int .i64 (s.getD i 0))) := Lib.hid (fun m i hi => by
    rw [World.cell?_drewN, List.getD_eq_getElem?_getD, List.getElem?_eq_getElem hi]
    exact (hM i _ (List.getElem?_eq_getElem hi)).1)
  have HMV : Hid (∀ m i, i < s.length → Calls Try.prog 74 #[.slice (some ad) s.length ca, .int .i64 (i : Int), .int .i64 f] (w.drewN m) fun e w' => ∃ v, e = .returned v ∧ Kd.R (Kd.int .i64) 3 w' (w.drewN m).heap.size (fun _ => True) v (moved s i f) ∧ Below (w.drewN m).heap.size (w.drewN m) w') := Lib.hid (fun m i hi => by
    obtain ⟨k, hk⟩ := Ev.rounds (moved_ev (by omega) hs.srt hi f)
    exact turndownref07_Moved.calls k (some ad) ca s _ f _ (w.drewN m) (Kd.C_drewN hr m) hca hk)
  have HRD : Hid (∀ m, Kd.C (Kd.int .i64) (w.drewN m) (some ad) s.length s) := Lib.hid (fun m => Kd.C_drewN hr m)
  have HFL : Hid (∀ i, i < s.length → Fl (s.getD i 0)) := Lib.hid (fun i hi => getD_fl2 hs hi)
  have HSR := Lib.hid hs.srt
  have HBN := Lib.hid (fun m => drewN_below w m)
  obtain ⟨q, hq⟩ : ∃ q, s.length = q + 1 := ⟨s.length - 1, by omega⟩
  have hq3 : q ≤ 2 := by omega
  have hlast : s.length - 1 = q := by omega
  have HLAST := Lib.hid hlast
  have HQ := Lib.hid hq
  rw [hq] at HHAS HCE HMV HRD HFL
  rw [hq]
  obtain ⟨b, hb⟩ : ∃ b, s.contains f = b := ⟨_, rfl⟩
  have HB := Lib.hid hb
  rw [hb] at HHAS
  clear hr hca hM hP hs hq hlast hk1 hk3 hb
  cases b with
  | true =>
    have HPY : Hid (∀ m, P (.returned (.slice (some ad) (q + 1) ca)) (w.drewN m)) := Lib.hid (fun m => by
      rw [HP.out]
      exact ⟨_, rfl, .inl ⟨by rw [HQ.out], by unfold Lf.serve; rw [HB.out]; rfl⟩, HBN.out m⟩)
    go_enter Try.func61, Try.ntmps61
    go_wp2_with (go_at_call 50; (with_reducible refine HHAS.out.mono ?_); rintro e w2 ⟨rfl, nd, rfl⟩)
    exact HPY.out nd
  | false =>
    have h00 := HCE.out
    by_cases c1 : f < s.getD 0 0
    · have HPY : Hid (∀ m v w', Kd.R (Kd.int .i64) 3 w' (w.drewN m).heap.size (fun _ => True) v (moved s 0 f) → Below (w.drewN m).heap.size (w.drewN m) w' → P (.returned v) w') := Lib.hid (fun m v w' hv hb => by
        rw [HP.out]
        refine ⟨_, rfl, .inr ?_, (HBN.out m).trans (hb.mono (HBN.out m).size)⟩
        rw [serve_low HB.out c1, ← moved_low HSR.out (by rw [HQ.out]; omega) c1]
        exact Kd.R_lower hv (HBN.out m).size)
      obtain ⟨x, hx⟩ : ∃ x, s.getD 0 0 = x := ⟨_, rfl⟩
      have HC0 : Hid (w.cell? ad = some (.int .i64 x)) := Lib.hid (by rw [← hx]; have h := HCE.out 0 0 (by omega); rw [World.cell?_drewN, addr0] at h; exact h)
      have HM0 : Hid (∀ m, Calls Try.prog 74 #[.slice (some ad) (q + 1) ca, .int .i64 0, .int .i64 f] (w.drewN m) fun e w' => ∃ v, e = .returned v ∧ Kd.R (Kd.int .i64) 3 w' (w.drewN m).heap.size (fun _ => True) v (moved s 0 f) ∧ Below (w.drewN m).heap.size (w.drewN m) w') := Lib.hid (fun m => HMV.out m 0 (by omega))
      rw [hx] at c1
      clear h00 hx
      go_enter Try.func61, Try.ntmps61
      go_upto_region 4 with (go_at_call 50; (with_reducible refine HHAS.out.mono ?_); rintro e w2 ⟨rfl, nd, rfl⟩)
      have hc := HC0.out
      have hq0 : (0 : Int) < (q : Int) + 1 := by omega
      go_wp2_with (go_at_call 74; (with_reducible refine (HM0.out nd).mono ?_); rintro e w3 ⟨v, rfl, hvv, hbb⟩)
      exact HPY.out nd _ _ hvv hbb
    · by_cases c2 : s.getD q 0 < f
      · have HPY : Hid (∀ m v w', Kd.R (Kd.int .i64) 3 w' (w.drewN m).heap.size (fun _ => True) v (moved s q f) → Below (w.drewN m).heap.size (w.drewN m) w' → P (.returned v) w') := Lib.hid (fun m v w' hv hb => by
          rw [HP.out]
          refine ⟨_, rfl, .inr ?_, (HBN.out m).trans (hb.mono (HBN.out m).size)⟩
          have c3 : s.getD (s.length - 1) 0 < f := by rw [HLAST.out]; exact c2
          rw [serve_high HB.out c1 c3, ← moved_high HSR.out (by rw [HQ.out]; omega) c3, HLAST.out]
          exact Kd.R_lower hv (HBN.out m).size)
        obtain ⟨x, hx⟩ : ∃ x, s.getD 0 0 = x := ⟨_, rfl⟩
        obtain ⟨y, hy⟩ : ∃ x, s.getD q 0 = x := ⟨_, rfl⟩
        have HC0 : Hid (w.cell? ad = some (.int .i64 x)) := Lib.hid (by rw [← hx]; have h := HCE.out 0 0 (by omega); rw [World.cell?_drewN, addr0] at h; exact h)
        have HC1 : Hid (w.cell? (ad.add q) = some (.int .i64 y)) := Lib.hid (by rw [← hy]; have h := HCE.out 0 q (by omega); rw [World.cell?_drewN] at h; exact h)
        have HM0 := Lib.hid (fun m => HMV.out m q (by omega))
        rw [hx] at c1
        rw [hy] at c2
        clear h00 hx hy
        go_enter Try.func61, Try.ntmps61
        go_upto_region 4 with (go_at_call 50; (with_reducible refine HHAS.out.mono ?_); rintro e w2 ⟨rfl, nd, rfl⟩)
        have hc := HC0.out
        have hc1 := HC1.out
        have hq0 : (0 : Int) < (q : Int) + 1 := by omega
        have hq1 : (q : Int) < (q : Int) + 1 := by omega
        have hq2 : (0 : Int) ≤ (q : Int) := by omega
        go_wp2_with (go_at_call 74; (with_reducible refine (HM0.out nd).mono ?_); rintro e w3 ⟨v, rfl, hvv, hbb⟩)
        exact HPY.out nd _ _ hvv hbb
      · have hne : ∀ i, i < q + 1 → s.getD i 0 ≠ f := fun i hi e => by
          have hm : s.getD i 0 ∈ s := by
            rw [List.getD_eq_getElem?_getD, List.getElem?_eq_getElem (by rw [HQ.out]; exact hi)]
            exact List.getElem_mem _
          rw [e] at hm
          have := HB.out
          rw [List.contains_eq_mem, decide_eq_false_iff_not] at this
          exact this hm
        have hup := upOf_ok (f := f) (s := s) ⟨s.getD q 0, by
          rw [List.getD_eq_getElem?_getD, List.getElem?_eq_getElem (by rw [HQ.out]; omega)]
          exact List.getElem_mem _, by have := hne q (by omega); omega⟩
        rw [HQ.out] at hup
        have hsh : Lf.serve s f = shove s (upOf f s) (min (s.getD (upOf f s) 0 - f) (f - s.getD (upOf f s - 1) 0)) := by
          unfold Lf.serve
          rw [HB.out, if_neg (by simp), if_neg c1, HLAST.out, if_neg c2]
        obtain ⟨a, ha⟩ : ∃ a, upOf f s = a := ⟨_, rfl⟩
        rw [ha] at hup hsh
        obtain ⟨hu1, hu2, hu3⟩ := hup
        have ha0 : a ≠ 0 := by
          intro e; rw [e] at hu2
          exact c1 hu2
        obtain ⟨b, hab⟩ : ∃ b, a = b + 1 := ⟨a - 1, by omega⟩
        have HAB := Lib.hid hab
        rw [hab] at hu1 hu2 hu3 hsh
        have hb3 : s.getD b 0 < f := by have := hu3 b (by omega); have := hne b (by omega); omega
        have HLT : Hid (∀ i, i < b + 1 → s.getD i 0 < f) := Lib.hid (fun i hi => by have := hu3 i hi; have := hne i (by omega); omega)
        rw [show b + 1 - 1 = b by omega] at hsh
        have fy := HFL.out b (by omega)
        have fx := HFL.out (b + 1) hu1
        obtain ⟨x, hx⟩ : ∃ x, s.getD (b + 1) 0 = x := ⟨_, rfl⟩
        obtain ⟨y, hy⟩ : ∃ x, s.getD b 0 = x := ⟨_, rfl⟩
        obtain ⟨x0, hx0⟩ : ∃ x, s.getD 0 0 = x := ⟨_, rfl⟩
        obtain ⟨y0, hy0⟩ : ∃ x, s.getD q 0 = x := ⟨_, rfl⟩
        have HC0 : Hid (w.cell? ad = some (.int .i64 x0)) := Lib.hid (by rw [← hx0]; have h := HCE.out 0 0 (by omega); rw [World.cell?_drewN, addr0] at h; exact h)
        have HCq : Hid (w.cell? (ad.add q) = some (.int .i64 y0)) := Lib.hid (by rw [← hy0]; have h := HCE.out 0 q (by omega); rw [World.cell?_drewN] at h; exact h)
        have HCx : Hid (w.cell? (ad.add a) = some (.int .i64 x)) := Lib.hid (by rw [← hx]; have h := HCE.out 0 (b + 1) (by omega); rw [World.cell?_drewN] at h; rw [hab]; exact h)
        have HCy : Hid (w.cell? (ad.add b) = some (.int .i64 y)) := Lib.hid (by rw [← hy]; have h := HCE.out 0 b (by omega); rw [World.cell?_drewN] at h; exact h)
        rw [hx0] at c1
        rw [hy0] at c2
        rw [hx] at hu2 fx
        rw [hy] at hb3 fy
        have HSH : Hid (Lf.serve s f = (s.set (b + 1) (x - min (x - f) (f - y))).set b (y + min (x - f) (f - y))) := Lib.hid (by
          rw [hsh, hx, hy]; unfold shove
          rw [show b + 1 - 1 = b by omega, hx, hy])
        have hba : b < a := by omega
        have haq : a < q + 1 := by omega
        clear hx hy hx0 hy0 h00 hsh ha hne hu3 ha0 hab hu1
        go_enter Try.func61, Try.ntmps61
        go_upto_region 4 with (go_at_call 50; (with_reducible refine HHAS.out.mono ?_); rintro e w2 ⟨rfl, nd, rfl⟩)
        have hc := HC0.out
        have hcq := HCq.out
        have hq0 : (0 : Int) < (q : Int) + 1 := by omega
        have hq1 : (q : Int) < (q : Int) + 1 := by omega
        have hq2 : (0 : Int) ≤ (q : Int) := by omega
        go_wp2_with fail
        clear hc hcq
        go_loop [6] (fun v6 => ∃ i : Nat, v6 = .int .i64 (i : Int) ∧ i ≤ a) (fun v6 => a - (intOf v6).toNat)
        case atStart => exact ⟨0, rfl, Nat.zero_le _⟩
        case round =>
          obtain ⟨i, rfl, hi⟩ := hrel
          by_cases hlt : i < a
          · have hz : s.getD i 0 < f := HLT.out i (by have := HAB.out; omega)
            have hcz : w.cell? (ad.add i) = some (.int .i64 (s.getD i 0)) := by have h := HCE.out 0 i (by omega); rw [World.cell?_drewN] at h; exact h
            obtain ⟨z, hzz⟩ : ∃ z, s.getD i 0 = z := ⟨_, rfl⟩
            rw [hzz] at hz hcz
            clear hzz
            have hi0 : (0 : Int) ≤ (i : Int) := by omega
            have hiq : (i : Int) < (q : Int) + 1 := by omega
            go_wp2_with fail
            exact ⟨⟨i + 1, by go_num, by omega⟩, by simp [intOf]; omega⟩
          · obtain rfl : i = a := by omega
            have hcx := HCx.out
            have hcy := HCy.out
            have hi0 : (0 : Int) ≤ (b : Int) := by omega
            have hi1 : (0 : Int) ≤ (i : Int) := by omega
            have hiq : (i : Int) < (q : Int) + 1 := by omega
            have hiq2 : (b : Int) < (q : Int) + 1 := by omega
            have hnx : ¬ x < f := by omega
            go_upto_region 11 with fail
            obtain ⟨x0', x1'⟩ := fx
            obtain ⟨y0', y1'⟩ := fy
            have hf' := hf
            obtain ⟨f0', f1'⟩ := hf'
            have hw1 : IntKind.i64.wrap (x - f) = x - f := IntWalk.i64_in _ (by omega)
            have hw2 : IntKind.i64.wrap (f - y) = f - y := IntWalk.i64_in _ (by omega)
            have hw3 : IntKind.i64.wrap ((i : Int) - 1) = (b : Int) := by have := HAB.out; rw [IntWalk.i64_in _ (by omega)]; omega
            go_quiet (fail)
            clear hw1 hw2 hw3
            obtain ⟨d, hde⟩ : ∃ d, min (x - f) (f - y) = d := ⟨_, rfl⟩
            have hd2 : (if f - y < x - f then f - y else x - f) = d := by rw [← hde]; split <;> omega
            have hd0 : 0 ≤ d ∧ d ≤ 30 := by omega
            have HDE := Lib.hid hde
            clear hde
            rw [hd2]
            clear hd2
            have hq40 : q + 1 ≤ 40 := by omega
            have HRD2 : Hid (∀ m, Kd.C (Kd.int .i64) (w.drewN m) (some ad) s.length s) := Lib.hid (fun m => by rw [HQ.out]; exact HRD.out m)
            go_upto_region 14 with (at_builtin; refine Kd.R_append_rows (Kd.int .i64) (w0 := w) w.heap.size rfl (.tmp 56) (.tmp 57) 22 3 (.int .i64 0) 8 rfl Try.underlying22 info3 rfl (by decide) (by omega) (.slice none 0 0) ([] : List Int) s _ _ _ (fun _ => True) (fun _ => False) rfl rfl ?aO ?aR (fun _ _ h => h) (fun _ h => h.elim) ?aF ?aB ?aS ?aL ?_)
            case aO => exact Kd.R_nil _ _ _ _ _
            case aR => have h := HRD2.out (nd + nq); rw [HQ.out] at h; exact h
            case aB => exact HBN.out _
            case aL => omega
            intro v1 w1 hR1 hB1 hG1 hO1
            obtain ⟨g, cap, ev, hg1, hg2, _⟩ := Kd.R_form hR1 (by rw [HQ.out]; omega)
            rw [HQ.out] at ev
            subst ev
            have HR1 := Lib.hid hR1
            have HRB : Hid (∀ (W : World) (l : List Int), Kd.R (Kd.int .i64) 3 W w.heap.size (fun _ => True) (.slice (some ⟨g, 0, none⟩) (q + 1) cap) l → ∀ j, j < q + 1 → W.cell? ⟨g, j, none⟩ = some (.int .i64 (l.getD j 0)) ∧ W.frozen? ⟨g, j, none⟩ = false) := Lib.hid (fun W l h j hj => by
              obtain ⟨c, hcl, hMM, hcc, hfr⟩ := Kd.R_elem h 0 (j : Int) (by omega) (by omega)
              rw [Int.toNat_natCast] at hMM hcc hfr
              have e1 : c = [.int .i64 (l.getD j 0)] := hMM
              subst e1
              have h1 := hcc 0 _ rfl
              have h2 := hfr 0
              rw [show j * (Kd.int .i64).sz + 0 = j from Nat.mul_one j] at h1 h2
              exact ⟨h1, h2⟩)
            have hcx1 := (HRB.out w1 s hR1 i haq).1
            have hv1 : s.getD i 0 = x := by
              have h1 := HCE.out 0 i haq
              rw [World.cell?_drewN, HCx.out] at h1
              injection h1 with h1; injection h1 with _ h1; exact h1.symm
            have hv2 : s.getD b 0 = y := by
              have h1 := HCE.out 0 b (by omega)
              rw [World.cell?_drewN, HCy.out] at h1
              injection h1 with h1; injection h1 with _ h1; exact h1.symm
            rw [hv1] at hcx1
            have HB1 := Lib.hid hB1
            have HV2 := Lib.hid hv2
            have hs1 : IntKind.i64.wrap (x - d) = x - d := IntWalk.i64_in _ (by omega)
            clear hR1 hB1 hG1 hO1 hv1 hv2 hcx hcy
            go_upto_region 15 with (refine Kd.R_store (Kd.int .i64) (w0 := w) (o' := i) w.heap.size ?sd ?sg 3 (.tmp 67) (.tmp 66) ?sh 3 (i : Int) 0 s (x - d) (.int .i64 (x - d)) [.int .i64 (x - d)] [.int .i64 x] (fun _ => True) (fun _ => False) ?sa ?so ?sx ?su ?st ?s1 HR1.out hi1 ?sl ?s2 ?s3 ?sj ?sM (fun _ h => h.elim) HB1.out ?_; (case sh => rfl))
            case sd => rfl
            case sg => rfl
            case sa => rfl
            case sx => rfl
            case su => rfl
            case so => exact (by rw [Int.toNat_natCast]; exact (Nat.mul_one i).symm)
            case st => rfl
            case s1 => intro u hu; simp at hu; subst hu; rfl
            case sl => omega
            case s2 => rfl
            case s3 =>
              intro j u hu
              have hj0 : j = 0 := by
                have := (List.getElem?_eq_some_iff.1 hu).1
                simpa using this
              subst hj0
              simp at hu
              subst hu
              rw [Int.toNat_natCast]
              show w1.cell? ⟨g, i * 1 + 0, none⟩ = _
              rw [Nat.mul_one]
              exact hcx1
            case sj => exact Nat.le_refl _
            case sM => rfl
            intro w3 hR3 hB3 hG3
            rw [Int.toNat_natCast] at hR3
            have hs2 : IntKind.i64.wrap (y + d) = y + d := IntWalk.i64_in _ (by omega)
            have hs3 : IntKind.i64.wrap ((i : Int) - 1) = (b : Int) := by have := HAB.out; rw [IntWalk.i64_in _ (by omega)]; omega
            have hbq : b < q + 1 := by omega
            have hcy3 := (HRB.out w3 _ hR3 b hbq).1
            have hv3 : (s.set i (x - d)).getD b 0 = y := by
              rw [List.getD_eq_getElem?_getD, List.getElem?_set_ne (by omega), ← List.getD_eq_getElem?_getD]; exact HV2.out
            rw [hv3] at hcy3
            have HR3 := Lib.hid hR3
            have HB3 := Lib.hid hB3
            clear hR3 hB3 hG3 hv3 hs1 hcx1
            go_upto_region 16 with (refine Kd.R_store (Kd.int .i64) (w0 := w) (o' := b) w.heap.size ?td ?tg 3 (.tmp 78) (.tmp 77) ?th 3 (b : Int) 0 (s.set i (x - d)) (y + d) (.int .i64 (y + d)) [.int .i64 (y + d)] [.int .i64 y] (fun _ => True) (fun _ => False) ?ta ?tp ?tx ?tu ?tt ?t1 HR3.out hi0 ?tl ?t2 ?t3 ?tj ?tM (fun _ h => h.elim) HB3.out ?_; (case th => rfl))
            case td => rfl
            case tg => rfl
            case ta => rfl
            case tx => rfl
            case tu => rfl
            case tp => exact (by rw [Int.toNat_natCast]; exact (Nat.mul_one b).symm)
            case tt => rfl
            case t1 => intro u hu; simp at hu; subst hu; rfl
            case tl => omega
            case t2 => rfl
            case t3 =>
              intro j u hu
              have hj0 : j = 0 := by
                have := (List.getElem?_eq_some_iff.1 hu).1
                simpa using this
              subst hj0
              simp at hu
              subst hu
              rw [Int.toNat_natCast]
              show w3.cell? ⟨g, b * 1 + 0, none⟩ = _
              rw [Nat.mul_one]
              exact hcy3
            case tj => exact Nat.le_refl _
            case tM => rfl
            intro w5 hR5 hB5 hG5
            rw [Int.toNat_natCast] at hR5
            have HF : Hid (P (.returned (.slice (some ⟨g, 0, none⟩) (q + 1) cap)) w5) := Lib.hid (by
              rw [HP.out]
              refine ⟨_, rfl, .inr ?_, hB5⟩
              rw [HSH.out, HDE.out, ← HAB.out]
              exact hR5)
            clear hR5 hB5 hG5 hs2 hs3 hcy3
            go_wp2_with fail
            exact HF.out
end Go.Proofs.Ytakbijpcfnipoaa.L

namespace Go.Proofs.Ytakbijpcfnipoaa.PA
open Go.RowKit Go.Proofs.YtakbijpcfnipoaaW.PrintWords Go.Proofs.YtakbijpcfnipoaaW.PrintLast Go.Proofs.YtakbijpcfnipoaaW.PrintMore
attribute [local go_sem] max2_int min2_int max_two min_two max_three min_three max_four min_four
set_option linter.unusedVariables false
set_option linter.unusedSimpArgs false
def turndownref07_Near.l0 : Nat → List Int → Int → Int → Int → Option (List Int)
 | 0, _, _, _, _ => none
 | k + 1, x0, x1, x5, x6 => if x6 < (x0.length : Int) then (if 0 ≤ x6 then (if 0 ≤ x5 then (if x5 < (x0.length : Int) then (if (mx (wrap64 ((rd x0 x6) - x1)) (wrap64 (x1 - (rd x0 x6)))) < (mx (wrap64 ((rd x0 x5) - x1)) (wrap64 (x1 - (rd x0 x5)))) then (turndownref07_Near.l0 k x0 x1 x6 (wrap64 (x6 + 1))) else (turndownref07_Near.l0 k x0 x1 x5 (wrap64 (x6 + 1)))) else (none)) else (none)) else (none)) else ((turndownref07_Moved.f k x0 x5 x1).bind fun t693 => (some t693))
def turndownref07_Near.f (k : Nat) (l0 : List Int) (a1 : Int) : Option (List Int) := turndownref07_Near.l0 k l0 a1 0 1
set_option maxHeartbeats 8000000 in
set_option maxRecDepth 100000 in
theorem turndownref07_Near.calls (k : Nat) (A0 : Option Addr) (c0 : Nat) (l0 : List Int) (a1 : Int) (r : List Int) (w : World) (hr0 : Kd.C (Kd.int .i64) w A0 l0.length l0) (hc0 : l0.length ≤ c0) (h : turndownref07_Near.f k l0 a1 = some r) :
  Calls Try.prog 63 #[.slice A0 l0.length c0, .int .i64 a1] w fun e w' => ∃ v0_ : Value, e = .returned (v0_) ∧ Kd.R (Kd.int .i64) 3 w' w.heap.size (fun _ => True) v0_ r ∧ Below w.heap.size w w' := by
 have HR0 := Aside0.mk hr0
 have HC0 := Aside0.mk hc0
 clear hr0 hc0
 have HB := Aside0.mk (Below.refl w.heap.size w)
 have H : (turndownref07_Near.l0 k l0 a1 0 1) = some r := h
 clear h
 have H' := Aside0.mk H
 clear H
 go_enter Try.func63, Try.ntmps63
 go_wp2
 repeat (go_quiet (fail); try go_wp2)
 go_loopg [5, 6] k (fun kq v5 v6 w' => ∃ (x5_1 : Int) (x6_1 : Int), v5 = .int .i64 x5_1 ∧ v6 = .int .i64 x6_1 ∧ Aside0 (turndownref07_Near.l0 kq l0 a1 x5_1 x6_1 = some r) ∧ Aside0 (kq ≤ k) ∧ Aside0 (Below w.heap.size w w'))
 case atStart => exact ⟨(0), (1), (by first | rfl | (simp; done) | (simp [*]; done)), (by first | rfl | (simp; done) | (simp [*]; done)), H', ⟨Nat.le_refl _⟩, ⟨by repeat (first | (with_reducible first | exact HB.out | apply below_alloc | apply pw_below_drewN | apply below_drew1) | exact HB.out)⟩⟩
 case round =>
  clear H'
  try clear p2
  obtain ⟨x5_1, x6_1, rfl, rfl, HA, HK1, HB⟩ := hrel
  cases gk with
  | zero => exact absurd HA.out (by simp [turndownref07_Near.l0])
  | succ k1 =>
   have H := HA.out
   clear HA
   simp only [turndownref07_Near.l0] at H
   by_cases c3 : x6_1 < (l0.length : Int)
   ·
    rw [if_pos c3] at H
    have c3b0 : decide (x6_1 < (l0.length : Int)) = true := decide_eq_true c3
    clear c3
    by_cases c4 : 0 ≤ x6_1
    ·
     rw [if_pos c4] at H
     have c4b0 : decide (0 ≤ x6_1) = true := decide_eq_true c4
     clear c4
     obtain ⟨ji5, hji5⟩ : ∃ j_ : Int, (mx (wrap64 ((rd l0 x6_1) - a1)) (wrap64 (a1 - (rd l0 x6_1)))) = j_ := ⟨_, rfl⟩
     replace H : (if 0 ≤ x5_1 then (if x5_1 < (l0.length : Int) then (if (ji5) < (mx (wrap64 ((rd l0 x5_1) - a1)) (wrap64 (a1 - (rd l0 x5_1)))) then (turndownref07_Near.l0 k1 l0 a1 x6_1 (wrap64 (x6_1 + 1))) else (turndownref07_Near.l0 k1 l0 a1 x5_1 (wrap64 (x6_1 + 1)))) else (none)) else (none)) = some r := by first | (rw [hji5] at H; exact H) | (simp only [hji5] at H ⊢; exact H)
     have hji5_ : (if (wrap64 ((rd l0 x6_1) - a1)) < (wrap64 (a1 - (rd l0 x6_1))) then (wrap64 (a1 - (rd l0 x6_1))) else (wrap64 ((rd l0 x6_1) - a1))) = ji5 := hji5
     by_cases c6 : 0 ≤ x5_1
     ·
      rw [if_pos c6] at H
      have c6b0 : decide (0 ≤ x5_1) = true := decide_eq_true c6
      clear c6
      by_cases c7 : x5_1 < (l0.length : Int)
      ·
       rw [if_pos c7] at H
       have c7b0 : decide (x5_1 < (l0.length : Int)) = true := decide_eq_true c7
       clear c7
       obtain ⟨ji8, hji8⟩ : ∃ j_ : Int, (mx (wrap64 ((rd l0 x5_1) - a1)) (wrap64 (a1 - (rd l0 x5_1)))) = j_ := ⟨_, rfl⟩
       replace H : (if (ji5) < (ji8) then (turndownref07_Near.l0 k1 l0 a1 x6_1 (wrap64 (x6_1 + 1))) else (turndownref07_Near.l0 k1 l0 a1 x5_1 (wrap64 (x6_1 + 1)))) = some r := by first | (rw [hji8] at H; exact H) | (simp only [hji8] at H ⊢; exact H)
       have hji8_ : (if (wrap64 ((rd l0 x5_1) - a1)) < (wrap64 (a1 - (rd l0 x5_1))) then (wrap64 (a1 - (rd l0 x5_1))) else (wrap64 ((rd l0 x5_1) - a1))) = ji8 := hji8
       by_cases c9 : (ji5) < (ji8)
       ·
        rw [if_pos c9] at H
        have c9b0 : decide ((ji5) < (ji8)) = true := decide_eq_true c9
        clear c9
        have H' := Aside0.mk H
        clear H
        have p689 : 0 ≤ (x6_1 : Int) := of_decide_eq_true (by first | (with_reducible assumption) | assumption)
        have q689 : x6_1 < (l0.length : Int) := of_decide_eq_true (by first | (with_reducible assumption) | assumption)
        obtain ⟨ad689, e689, hx689_0⟩ := Kd.at_int HR0.out x6_1 p689 q689
        cases e689
        replace hx689_0 := (HB.out.cell (World.block_lt_of_cell? w _ hx689_0)).trans hx689_0
        replace p689 := eq_true p689
        replace q689 := eq_true q689
        have p690 : 0 ≤ (x6_1 : Int) := of_decide_eq_true (by first | (with_reducible assumption) | assumption)
        have q690 : x6_1 < (l0.length : Int) := of_decide_eq_true (by first | (with_reducible assumption) | assumption)
        obtain ⟨ad690, e690, hx690_0⟩ := Kd.at_int HR0.out x6_1 p690 q690
        obtain rfl : ad689 = ad690 := (by injection e690)
        replace hx690_0 := (HB.out.cell (World.block_lt_of_cell? w _ hx690_0)).trans hx690_0
        replace p690 := eq_true p690
        replace q690 := eq_true q690
        have p691 : 0 ≤ (x5_1 : Int) := of_decide_eq_true (by first | (with_reducible assumption) | assumption)
        have q691 : x5_1 < (l0.length : Int) := of_decide_eq_true (by first | (with_reducible assumption) | assumption)
        obtain ⟨ad691, e691, hx691_0⟩ := Kd.at_int HR0.out x5_1 p691 q691
        obtain rfl : ad689 = ad691 := (by injection e691)
        replace hx691_0 := (HB.out.cell (World.block_lt_of_cell? w _ hx691_0)).trans hx691_0
        replace p691 := eq_true p691
        replace q691 := eq_true q691
        have p692 : 0 ≤ (x5_1 : Int) := of_decide_eq_true (by first | (with_reducible assumption) | assumption)
        have q692 : x5_1 < (l0.length : Int) := of_decide_eq_true (by first | (with_reducible assumption) | assumption)
        obtain ⟨ad692, e692, hx692_0⟩ := Kd.at_int HR0.out x5_1 p692 q692
        obtain rfl : ad689 = ad692 := (by injection e692)
        replace hx692_0 := (HB.out.cell (World.block_lt_of_cell? w _ hx692_0)).trans hx692_0
        replace p692 := eq_true p692
        replace q692 := eq_true q692
        go_wp2
        repeat (go_quiet (fail); try go_wp2)
        go_roundg k1
        case measure => have := HK1.out; omega
        case rel => exact ⟨(x6_1), (wrap64 (x6_1 + 1)), (by first | rfl | (simp; done) | (simp [*]; done)), (by first | rfl | (simp; done) | (simp [*]; done)), H', ⟨by have := HK1.out; omega⟩, ⟨by repeat (first | (with_reducible first | exact HB.out | apply below_alloc | apply pw_below_drewN | apply below_drew1) | exact HB.out)⟩⟩
       ·
        rw [if_neg c9] at H
        have c9b0 : decide ((ji5) < (ji8)) = false := decide_eq_false c9
        clear c9
        have H' := Aside0.mk H
        clear H
        have p689 : 0 ≤ (x6_1 : Int) := of_decide_eq_true (by first | (with_reducible assumption) | assumption)
        have q689 : x6_1 < (l0.length : Int) := of_decide_eq_true (by first | (with_reducible assumption) | assumption)
        obtain ⟨ad689, e689, hx689_0⟩ := Kd.at_int HR0.out x6_1 p689 q689
        cases e689
        replace hx689_0 := (HB.out.cell (World.block_lt_of_cell? w _ hx689_0)).trans hx689_0
        replace p689 := eq_true p689
        replace q689 := eq_true q689
        have p690 : 0 ≤ (x6_1 : Int) := of_decide_eq_true (by first | (with_reducible assumption) | assumption)
        have q690 : x6_1 < (l0.length : Int) := of_decide_eq_true (by first | (with_reducible assumption) | assumption)
        obtain ⟨ad690, e690, hx690_0⟩ := Kd.at_int HR0.out x6_1 p690 q690
        obtain rfl : ad689 = ad690 := (by injection e690)
        replace hx690_0 := (HB.out.cell (World.block_lt_of_cell? w _ hx690_0)).trans hx690_0
        replace p690 := eq_true p690
        replace q690 := eq_true q690
        have p691 : 0 ≤ (x5_1 : Int) := of_decide_eq_true (by first | (with_reducible assumption) | assumption)
        have q691 : x5_1 < (l0.length : Int) := of_decide_eq_true (by first | (with_reducible assumption) | assumption)
        obtain ⟨ad691, e691, hx691_0⟩ := Kd.at_int HR0.out x5_1 p691 q691
        obtain rfl : ad689 = ad691 := (by injection e691)
        replace hx691_0 := (HB.out.cell (World.block_lt_of_cell? w _ hx691_0)).trans hx691_0
        replace p691 := eq_true p691
        replace q691 := eq_true q691
        have p692 : 0 ≤ (x5_1 : Int) := of_decide_eq_true (by first | (with_reducible assumption) | assumption)
        have q692 : x5_1 < (l0.length : Int) := of_decide_eq_true (by first | (with_reducible assumption) | assumption)
        obtain ⟨ad692, e692, hx692_0⟩ := Kd.at_int HR0.out x5_1 p692 q692
        obtain rfl : ad689 = ad692 := (by injection e692)
        replace hx692_0 := (HB.out.cell (World.block_lt_of_cell? w _ hx692_0)).trans hx692_0
        replace p692 := eq_true p692
        replace q692 := eq_true q692
        go_wp2
        repeat (go_quiet (fail); try go_wp2)
        go_roundg k1
        case measure => have := HK1.out; omega
        case rel => exact ⟨(x5_1), (wrap64 (x6_1 + 1)), (by first | rfl | (simp; done) | (simp [*]; done)), (by first | rfl | (simp; done) | (simp [*]; done)), H', ⟨by have := HK1.out; omega⟩, ⟨by repeat (first | (with_reducible first | exact HB.out | apply below_alloc | apply pw_below_drewN | apply below_drew1) | exact HB.out)⟩⟩
      ·
       rw [if_neg c7] at H
       exact absurd H (by simp)
     ·
      rw [if_neg c6] at H
      exact absurd H (by simp)
    ·
     rw [if_neg c4] at H
     exact absurd H (by simp)
   ·
    rw [if_neg c3] at H
    have c3b0 : decide (x6_1 < (l0.length : Int)) = false := decide_eq_false c3
    clear c3
    replace H := Option.bind_eq_some_iff.mp H
    obtain ⟨t693, A100, H⟩ := H
    replace H : (some t693) = some r := H
    have A10 := Aside0.mk A100
    clear A100
    obtain rfl := Option.some.inj H
    go_wp2_with (first | (go_at_call 74; (with_reducible refine (turndownref07_Moved.calls k1 _ _ l0 x5_1 a1 t693 _ ?side1 ?side2 A10.out).mono ?_); (case side1 => repeat (first | exact (Kd.C_below HR0.out HB.out) | (with_reducible refine Kd.C_alloc ?_ _) | (with_reducible refine Kd.C_drewN ?_ _) | (with_reducible refine Kd.C_drew ?_))); (case side2 => exact HC0.out); rintro e w11 ⟨v694, rfl, ho0, hb⟩; have n0_ := Aside0.mk (Kd.R_lower ho0 (below_size (by repeat (first | (with_reducible first | exact HB.out | apply below_alloc | apply pw_below_drewN | apply below_drew1) | exact HB.out)))); have n1_ := Aside0.mk (below_step (by repeat (first | (with_reducible first | exact HB.out | apply below_alloc | apply pw_below_drewN | apply below_drew1) | exact HB.out)) hb); clear HB; have HO695 := n0_; have HB := n1_; clear n0_ n1_; (try clear hb); (try clear hb2); (try clear hk); (try clear hi); (try clear ho0)))
    repeat (go_quiet (first | (go_at_call 74; (with_reducible refine (turndownref07_Moved.calls k1 _ _ l0 x5_1 a1 t693 _ ?side1 ?side2 A10.out).mono ?_); (case side1 => repeat (first | exact (Kd.C_below HR0.out HB.out) | (with_reducible refine Kd.C_alloc ?_ _) | (with_reducible refine Kd.C_drewN ?_ _) | (with_reducible refine Kd.C_drew ?_))); (case side2 => exact HC0.out); rintro e w11 ⟨v694, rfl, ho0, hb⟩; have n0_ := Aside0.mk (Kd.R_lower ho0 (below_size (by repeat (first | (with_reducible first | exact HB.out | apply below_alloc | apply pw_below_drewN | apply below_drew1) | exact HB.out)))); have n1_ := Aside0.mk (below_step (by repeat (first | (with_reducible first | exact HB.out | apply below_alloc | apply pw_below_drewN | apply below_drew1) | exact HB.out)) hb); clear HB; have HO695 := n0_; have HB := n1_; clear n0_ n1_; (try clear hb); (try clear hb2); (try clear hk); (try clear hi); (try clear ho0))); try go_wp2_with (first | (go_at_call 74; (with_reducible refine (turndownref07_Moved.calls k1 _ _ l0 x5_1 a1 t693 _ ?side1 ?side2 A10.out).mono ?_); (case side1 => repeat (first | exact (Kd.C_below HR0.out HB.out) | (with_reducible refine Kd.C_alloc ?_ _) | (with_reducible refine Kd.C_drewN ?_ _) | (with_reducible refine Kd.C_drew ?_))); (case side2 => exact HC0.out); rintro e w11 ⟨v694, rfl, ho0, hb⟩; have n0_ := Aside0.mk (Kd.R_lower ho0 (below_size (by repeat (first | (with_reducible first | exact HB.out | apply below_alloc | apply pw_below_drewN | apply below_drew1) | exact HB.out)))); have n1_ := Aside0.mk (below_step (by repeat (first | (with_reducible first | exact HB.out | apply below_alloc | apply pw_below_drewN | apply below_drew1) | exact HB.out)) hb); clear HB; have HO695 := n0_; have HB := n1_; clear n0_ n1_; (try clear hb); (try clear hb2); (try clear hk); (try clear hi); (try clear ho0))))
    go_ret
    exact ⟨_, by first | rfl | (simp [errW_none, errW_some] <;> rfl) | (simp [*, errW_none, errW_some] <;> rfl), by (with_reducible repeat (first | apply Kd.R_alloc | apply Kd.R_drewN | apply Kd.R_drew)); exact HO695.out, by repeat (first | (with_reducible first | exact HB.out | apply below_alloc | apply pw_below_drewN | apply below_drew1) | exact HB.out)⟩
end Go.Proofs.Ytakbijpcfnipoaa.PA
