/- What the statements of this seat lean on: the functions that they reach, walked. -/
import Derived.Test.YtcpojohpmcnnhaaZw9
set_option linter.unusedSimpArgs false
set_option linter.unusedVariables false

namespace Go.Proofs.Ytcpojohpmcnnhaa.PA
open Go.RowKit Go.Proofs.YtcpojohpmcnnhaaW.PrintWords Go.Proofs.YtcpojohpmcnnhaaW.PrintLast Go.Proofs.YtcpojohpmcnnhaaW.PrintMore
attribute [local go_sem] max2_int min2_int max_two min_two max_three min_three max_four min_four
set_option linter.unusedVariables false
set_option linter.unusedSimpArgs false
mutual
def turndownlaw06_tame.l0 : Nat → List Int → Int → Int → List Int → Int → Option (List Int)
 | 0, _, _, _, _, _ => none
 | k + 1, x0, x1, x2, x7, x8 => if x8 < (x0.length : Int) then (turndownlaw06_tame.j1 k x0 x1 x2 x7 x8 (decide (x8 < x1))) else (turndownlaw06_tame.j1 k x0 x1 x2 x7 x8 false)
def turndownlaw06_tame.j1 : Nat → List Int → Int → Int → List Int → Int → Bool → Option (List Int)
 | 0, _, _, _, _, _, _ => none
 | k + 1, x0, x1, x2, x7, x8, x18 => if x18 = true then (if 0 ≤ x8 then (if x8 < (x0.length : Int) then (if (rd x0 x8) < x2 then ((turndownlaw06_mod.f (rd x0 x8) 1000).bind fun t316 => (if x7.length < 17592186044416 then (turndownlaw06_tame.l0 k x0 x1 x2 (x7 ++ [wrap64 (x2 + t316)]) (wrap64 (x8 + 1))) else (none))) else (if (rd x0 x8) > 1073741824 then ((turndownlaw06_mod.f (rd x0 x8) 1000).bind fun t320 => (if x7.length < 17592186044416 then (turndownlaw06_tame.l0 k x0 x1 x2 (x7 ++ [wrap64 (x2 + t320)]) (wrap64 (x8 + 1))) else (none))) else (if x7.length < 17592186044416 then (turndownlaw06_tame.l0 k x0 x1 x2 (x7 ++ [rd x0 x8]) (wrap64 (x8 + 1))) else (none)))) else (none)) else (none)) else (if (x7.length : Int) = 0 then (if x7.length < 17592186044416 then (some (x7 ++ [1])) else (none)) else (some x7))
end
def turndownlaw06_tame.f (k : Nat) (l0 : List Int) (a1 : Int) (a2 : Int) : Option (List Int) := turndownlaw06_tame.l0 k l0 a1 a2 ([] : List Int) 0
set_option maxHeartbeats 8000000 in
set_option maxRecDepth 100000 in
theorem turndownlaw06_tame.calls (k : Nat) (A0 : Option Addr) (c0 : Nat) (l0 : List Int) (a1 : Int) (a2 : Int) (r : List Int) (w : World) (hr0 : Kd.C (Kd.int .i64) w A0 l0.length l0) (hc0 : l0.length ≤ c0) (h : turndownlaw06_tame.f k l0 a1 a2 = some r) :
  Calls Try.prog 38 #[.slice A0 l0.length c0, .int .i64 a1, .int .i64 a2] w fun e w' => ∃ v0_ : Value, e = .returned (v0_) ∧ Kd.R (Kd.int .i64) 3 w' w.heap.size (fun _ => True) v0_ r ∧ Below w.heap.size w w' := by
 have HR0 := Aside0.mk hr0
 have HC0 := Aside0.mk hc0
 clear hr0 hc0
 have HB := Aside0.mk (Below.refl w.heap.size w)
 have H : (turndownlaw06_tame.l0 k l0 a1 a2 ([] : List Int) 0) = some r := h
 clear h
 have H' := Aside0.mk H
 clear H
 go_enter Try.func38, Try.ntmps38
 go_wp2
 go_loopg [7, 8] k (fun kq v7 v8 w' => ∃ (x7_1 : List Int) (x8_1 : Int), v8 = .int .i64 x8_1 ∧ Aside0 (turndownlaw06_tame.l0 kq l0 a1 a2 x7_1 x8_1 = some r) ∧ Aside0 (kq ≤ k) ∧ Aside0 (Kd.R (Kd.int .i64) 3 w' w.heap.size (fun _ => True) v7 x7_1) ∧ Aside0 (Below w.heap.size w w'))
 case atStart => exact ⟨(([] : List Int)), (0), (by first | rfl | (simp; done) | (simp [*]; done)), H', ⟨Nat.le_refl _⟩, ⟨by first | exact Kd.R_nil _ _ _ _ _ | exact Kd.N_nil _ _ _ _ _ | exact Kd.V_nil _ _ _ _ _ | exact Kd.Q_nil _ _ _ _ _ | exact Kd.S_nil _ _ _ _ _⟩, ⟨by repeat (first | (with_reducible first | exact HB.out | apply below_alloc | apply pw_below_drewN | apply below_drew1) | exact HB.out)⟩⟩
 case round =>
  clear H'
  try clear p2
  try clear c3
  obtain ⟨x7_1, x8_1, rfl, HA, HK1, HO_7, HB⟩ := hrel
  cases gk with
  | zero => exact absurd HA.out (by simp [turndownlaw06_tame.l0])
  | succ k1 =>
   have H := HA.out
   clear HA
   simp only [turndownlaw06_tame.l0] at H
   have HC4 := Aside0.mk H
   clear H
   go_upto_region 3 with (fail)
   go_cut [18] (fun v18 wc => ∃ (kq : Nat) (x18_3 : Bool), v18 = .bool x18_3 ∧ Aside0 (turndownlaw06_tame.j1 kq l0 a1 a2 x7_1 x8_1 x18_3 = some r) ∧ Aside0 (kq ≤ k1) ∧ Aside0 (Kd.R (Kd.int .i64) 3 wc w.heap.size (fun _ => True) u7 x7_1) ∧ Aside0 (Below w.heap.size w wc))
   case first =>
    have H := HC4.out
    clear HC4
    by_cases c5 : x8_1 < (l0.length : Int)
    ·
     rw [if_pos c5] at H
     have c5b0 : decide (x8_1 < (l0.length : Int)) = true := decide_eq_true c5
     clear c5
     (first | rw [c5b0] | (simp only [i64_w, i32_w]; rw [c5b0]) | skip)
     have H' := Aside0.mk H
     clear H
     go_wp2
     go_meet
     case rel => exact ⟨_, (decide (x8_1 < a1)), (by first | rfl | (simp; done) | (simp [*]; done)), H', ⟨by have := HK1.out; first | omega | exact Nat.le_refl _⟩, ⟨by (with_reducible repeat (first | apply Kd.R_alloc | apply Kd.R_drewN | apply Kd.R_drew)); exact HO_7.out⟩, ⟨by repeat (first | (with_reducible first | exact HB.out | apply below_alloc | apply pw_below_drewN | apply below_drew1) | exact HB.out)⟩⟩
    ·
     rw [if_neg c5] at H
     have c5b0 : decide (x8_1 < (l0.length : Int)) = false := decide_eq_false c5
     clear c5
     (first | rw [c5b0] | (simp only [i64_w, i32_w]; rw [c5b0]) | skip)
     have H' := Aside0.mk H
     clear H
     go_wp2
     go_meet
     case rel => exact ⟨_, (false), (by first | rfl | (simp; done) | (simp [*]; done)), H', ⟨by have := HK1.out; first | omega | exact Nat.le_refl _⟩, ⟨by (with_reducible repeat (first | apply Kd.R_alloc | apply Kd.R_drewN | apply Kd.R_drew)); exact HO_7.out⟩, ⟨by repeat (first | (with_reducible first | exact HB.out | apply below_alloc | apply pw_below_drewN | apply below_drew1) | exact HB.out)⟩⟩
   case rest =>
    clear HC4
    try clear p2
    try clear c3
    try clear c5
    try clear c5b0
    try clear p2
    obtain ⟨kq, x18_3, rfl, HA, HJ3, HO_7, HB⟩ := hcut
    cases kq with
    | zero => exact absurd HA.out (by simp [turndownlaw06_tame.j1])
    | succ kj3 =>
     have H := HA.out
     clear HA
     simp only [turndownlaw06_tame.j1] at H
     by_cases c6 : x18_3 = true
     ·
      subst c6
      have H1 : (if 0 ≤ x8_1 then (if x8_1 < (l0.length : Int) then (if (rd l0 x8_1) < a2 then ((turndownlaw06_mod.f (rd l0 x8_1) 1000).bind fun t316 => (if x7_1.length < 17592186044416 then (turndownlaw06_tame.l0 kj3 l0 a1 a2 (x7_1 ++ [wrap64 (a2 + t316)]) (wrap64 (x8_1 + 1))) else (none))) else (if (rd l0 x8_1) > 1073741824 then ((turndownlaw06_mod.f (rd l0 x8_1) 1000).bind fun t320 => (if x7_1.length < 17592186044416 then (turndownlaw06_tame.l0 kj3 l0 a1 a2 (x7_1 ++ [wrap64 (a2 + t320)]) (wrap64 (x8_1 + 1))) else (none))) else (if x7_1.length < 17592186044416 then (turndownlaw06_tame.l0 kj3 l0 a1 a2 (x7_1 ++ [rd l0 x8_1]) (wrap64 (x8_1 + 1))) else (none)))) else (none)) else (none)) = some r := by rw [if_pos rfl] at H; exact H
      clear H
      have H := H1
      clear H1
      by_cases c7 : 0 ≤ x8_1
      ·
       rw [if_pos c7] at H
       have c7b0 : decide (0 ≤ x8_1) = true := decide_eq_true c7
       clear c7
       by_cases c8 : x8_1 < (l0.length : Int)
       ·
        rw [if_pos c8] at H
        have c8b0 : decide (x8_1 < (l0.length : Int)) = true := decide_eq_true c8
        clear c8
        by_cases c9 : (rd l0 x8_1) < a2
        ·
         rw [if_pos c9] at H
         have c9b0 : decide ((rd l0 x8_1) < a2) = true := decide_eq_true c9
         clear c9
         replace H := Option.bind_eq_some_iff.mp H
         obtain ⟨t316, A100, H⟩ := H
         replace H : (if x7_1.length < 17592186044416 then (turndownlaw06_tame.l0 kj3 l0 a1 a2 (x7_1 ++ [wrap64 (a2 + t316)]) (wrap64 (x8_1 + 1))) else (none)) = some r := H
         have A10 := Aside0.mk A100
         clear A100
         by_cases c11 : x7_1.length < 17592186044416
         ·
          rw [if_pos c11] at H
          have LMc11 := Aside0.mk c11
          clear c11
          obtain ⟨y317, hy317⟩ : ∃ y_ : List Int, y_ = (x7_1 ++ [wrap64 (a2 + t316)]) := ⟨_, rfl⟩
          replace H : (turndownlaw06_tame.l0 kj3 l0 a1 a2 y317 (wrap64 (x8_1 + 1))) = some r := by first | (rw [hy317]; with_reducible exact H) | (have H2_ := (Option.bind_some _ _).symm.trans H; rw [hy317]; with_reducible exact H2_) | (have H2_ := (Option.bind_some _ _).symm.trans H; with_reducible exact H2_) | with_reducible exact H | (rw [hy317]; exact H) | exact H
          have Ny317 := Aside0.mk hy317
          clear hy317
          have H' := Aside0.mk H
          clear H
          have p315 : 0 ≤ (x8_1 : Int) := of_decide_eq_true (by first | (with_reducible assumption) | assumption)
          have q315 : x8_1 < (l0.length : Int) := of_decide_eq_true (by first | (with_reducible assumption) | assumption)
          obtain ⟨ad315, e315, hx315_0⟩ := Kd.at_int HR0.out x8_1 p315 q315
          cases e315
          replace hx315_0 := (HB.out.cell (World.block_lt_of_cell? w _ hx315_0)).trans hx315_0
          replace p315 := eq_true p315
          replace q315 := eq_true q315
          go_wp2_with (first | ((with_reducible refine gate_callee (f := 39) rfl ?_); refine goesL_ (some 34) rfl rfl Try.func39 (by kernel_rfl) rfl #[.int .i64 (rd l0 x8_1), .int .i64 1000] rfl (by (try simp only [List.map_toArray, List.map_cons, List.map_nil]); first | done | rfl | (simp only [List.length_drop, List.length_take]; rfl)) ?_; (with_reducible refine (turndownlaw06_mod.calls (rd l0 x8_1) 1000 t316 _ A10.out).mono ?_); rintro e w' ⟨rfl, ⟨nd, rfl⟩⟩; refine ⟨_, rfl, ?_⟩) | ((with_reducible refine gate_builtin (b := .append) (xs := #[.tmp 36, .tmp 38]) rfl ?_); at_builtin; refine Kd.R_append (Kd.int .i64) (w0 := w) w.heap.size rfl (.tmp 36) (.tmp 38) 22 3 (.int .i64 0) 8 rfl Try.underlying22 info3 rfl (by decide) (by omega) u7 x7_1 (wrap64 (a2 + t316)) [.int .i64 (wrap64 (a2 + t316))] (fun _ => True) (fun _ => False) rfl rfl ?aP (fun _ hk => hk.elim) ?aF ?aO ?aB ?aS ?aL ?_; (case aP => exact rfl); (case aB => exact (by repeat (first | (with_reducible first | exact HB.out | apply below_alloc | apply pw_below_drewN | apply below_drew1) | exact HB.out))); (case aF => exact (fun _ _ => trivial)); (case aO => exact (by (with_reducible repeat (first | apply Kd.R_alloc | apply Kd.R_drewN | apply Kd.R_drew)); exact HO_7.out)); (case aS => exact (below_size (by repeat (first | (with_reducible first | exact HB.out | apply below_alloc | apply pw_below_drewN | apply below_drew1) | exact HB.out)))); (case aL => have := LMc11.out; omega); intro v318 w12 ho hb hg hat; rw [← Ny317.out] at ho; have n0_ := Aside0.mk (hb); have n1_ := Aside0.mk (ho); clear HB; clear HO_7; have HB := n0_; have HO319 := n1_; clear n0_ n1_; clear ho hb hg hat))
          go_roundg kj3
          case measure => have := HK1.out; have := HJ3.out; omega
          case rel => exact ⟨(y317), (wrap64 (x8_1 + 1)), (by first | rfl | (simp; done) | (simp [*]; done)), H', ⟨by have := HK1.out; have := HJ3.out; omega⟩, ⟨by (with_reducible repeat (first | apply Kd.R_alloc | apply Kd.R_drewN | apply Kd.R_drew)); exact HO319.out⟩, ⟨by repeat (first | (with_reducible first | exact HB.out | apply below_alloc | apply pw_below_drewN | apply below_drew1) | exact HB.out)⟩⟩
         ·
          rw [if_neg c11] at H
          exact absurd H (by simp)
        ·
         rw [if_neg c9] at H
         have c9b0 : decide ((rd l0 x8_1) < a2) = false := decide_eq_false c9
         clear c9
         by_cases c13 : (rd l0 x8_1) > 1073741824
         ·
          rw [if_pos c13] at H
          have c13b0 : decide (1073741824 < (rd l0 x8_1)) = true := decide_eq_true c13
          clear c13
          replace H := Option.bind_eq_some_iff.mp H
          obtain ⟨t320, A140, H⟩ := H
          replace H : (if x7_1.length < 17592186044416 then (turndownlaw06_tame.l0 kj3 l0 a1 a2 (x7_1 ++ [wrap64 (a2 + t320)]) (wrap64 (x8_1 + 1))) else (none)) = some r := H
          have A14 := Aside0.mk A140
          clear A140
          by_cases c15 : x7_1.length < 17592186044416
          ·
           rw [if_pos c15] at H
           have LMc15 := Aside0.mk c15
           clear c15
           obtain ⟨y321, hy321⟩ : ∃ y_ : List Int, y_ = (x7_1 ++ [wrap64 (a2 + t320)]) := ⟨_, rfl⟩
           replace H : (turndownlaw06_tame.l0 kj3 l0 a1 a2 y321 (wrap64 (x8_1 + 1))) = some r := by first | (rw [hy321]; with_reducible exact H) | (have H2_ := (Option.bind_some _ _).symm.trans H; rw [hy321]; with_reducible exact H2_) | (have H2_ := (Option.bind_some _ _).symm.trans H; with_reducible exact H2_) | with_reducible exact H | (rw [hy321]; exact H) | exact H
           have Ny321 := Aside0.mk hy321
           clear hy321
           have H' := Aside0.mk H
           clear H
           have p315 : 0 ≤ (x8_1 : Int) := of_decide_eq_true (by first | (with_reducible assumption) | assumption)
           have q315 : x8_1 < (l0.length : Int) := of_decide_eq_true (by first | (with_reducible assumption) | assumption)
           obtain ⟨ad315, e315, hx315_0⟩ := Kd.at_int HR0.out x8_1 p315 q315
           cases e315
           replace hx315_0 := (HB.out.cell (World.block_lt_of_cell? w _ hx315_0)).trans hx315_0
           replace p315 := eq_true p315
           replace q315 := eq_true q315
           go_wp2_with (first | ((with_reducible refine gate_callee (f := 39) rfl ?_); refine goesL_ (some 34) rfl rfl Try.func39 (by kernel_rfl) rfl #[.int .i64 (rd l0 x8_1), .int .i64 1000] rfl (by (try simp only [List.map_toArray, List.map_cons, List.map_nil]); first | done | rfl | (simp only [List.length_drop, List.length_take]; rfl)) ?_; (with_reducible refine (turndownlaw06_mod.calls (rd l0 x8_1) 1000 t320 _ A14.out).mono ?_); rintro e w' ⟨rfl, ⟨nd, rfl⟩⟩; refine ⟨_, rfl, ?_⟩) | ((with_reducible refine gate_builtin (b := .append) (xs := #[.tmp 36, .tmp 38]) rfl ?_); at_builtin; refine Kd.R_append (Kd.int .i64) (w0 := w) w.heap.size rfl (.tmp 36) (.tmp 38) 22 3 (.int .i64 0) 8 rfl Try.underlying22 info3 rfl (by decide) (by omega) u7 x7_1 (wrap64 (a2 + t320)) [.int .i64 (wrap64 (a2 + t320))] (fun _ => True) (fun _ => False) rfl rfl ?aP (fun _ hk => hk.elim) ?aF ?aO ?aB ?aS ?aL ?_; (case aP => exact rfl); (case aB => exact (by repeat (first | (with_reducible first | exact HB.out | apply below_alloc | apply pw_below_drewN | apply below_drew1) | exact HB.out))); (case aF => exact (fun _ _ => trivial)); (case aO => exact (by (with_reducible repeat (first | apply Kd.R_alloc | apply Kd.R_drewN | apply Kd.R_drew)); exact HO_7.out)); (case aS => exact (below_size (by repeat (first | (with_reducible first | exact HB.out | apply below_alloc | apply pw_below_drewN | apply below_drew1) | exact HB.out)))); (case aL => have := LMc15.out; omega); intro v322 w16 ho hb hg hat; rw [← Ny321.out] at ho; have n0_ := Aside0.mk (hb); have n1_ := Aside0.mk (ho); clear HB; clear HO_7; have HB := n0_; have HO323 := n1_; clear n0_ n1_; clear ho hb hg hat))
           go_roundg kj3
           case measure => have := HK1.out; have := HJ3.out; omega
           case rel => exact ⟨(y321), (wrap64 (x8_1 + 1)), (by first | rfl | (simp; done) | (simp [*]; done)), H', ⟨by have := HK1.out; have := HJ3.out; omega⟩, ⟨by (with_reducible repeat (first | apply Kd.R_alloc | apply Kd.R_drewN | apply Kd.R_drew)); exact HO323.out⟩, ⟨by repeat (first | (with_reducible first | exact HB.out | apply below_alloc | apply pw_below_drewN | apply below_drew1) | exact HB.out)⟩⟩
          ·
           rw [if_neg c15] at H
           exact absurd H (by simp)
         ·
          rw [if_neg c13] at H
          have c13b0 : decide (1073741824 < (rd l0 x8_1)) = false := decide_eq_false c13
          clear c13
          by_cases c17 : x7_1.length < 17592186044416
          ·
           rw [if_pos c17] at H
           have LMc17 := Aside0.mk c17
           clear c17
           obtain ⟨y324, hy324⟩ : ∃ y_ : List Int, y_ = (x7_1 ++ [rd l0 x8_1]) := ⟨_, rfl⟩
           replace H : (turndownlaw06_tame.l0 kj3 l0 a1 a2 y324 (wrap64 (x8_1 + 1))) = some r := by first | (rw [hy324]; with_reducible exact H) | (have H2_ := (Option.bind_some _ _).symm.trans H; rw [hy324]; with_reducible exact H2_) | (have H2_ := (Option.bind_some _ _).symm.trans H; with_reducible exact H2_) | with_reducible exact H | (rw [hy324]; exact H) | exact H
           have Ny324 := Aside0.mk hy324
           clear hy324
           have H' := Aside0.mk H
           clear H
           have p315 : 0 ≤ (x8_1 : Int) := of_decide_eq_true (by first | (with_reducible assumption) | assumption)
           have q315 : x8_1 < (l0.length : Int) := of_decide_eq_true (by first | (with_reducible assumption) | assumption)
           obtain ⟨ad315, e315, hx315_0⟩ := Kd.at_int HR0.out x8_1 p315 q315
           cases e315
           replace hx315_0 := (HB.out.cell (World.block_lt_of_cell? w _ hx315_0)).trans hx315_0
           replace p315 := eq_true p315
           replace q315 := eq_true q315
           go_wp2_with (first | ((with_reducible refine gate_builtin (b := .append) (xs := #[.tmp 36, .tmp 38]) rfl ?_); at_builtin; refine Kd.R_append (Kd.int .i64) (w0 := w) w.heap.size rfl (.tmp 36) (.tmp 38) 22 3 (.int .i64 0) 8 rfl Try.underlying22 info3 rfl (by decide) (by omega) u7 x7_1 (rd l0 x8_1) [.int .i64 (rd l0 x8_1)] (fun _ => True) (fun _ => False) rfl rfl ?aP (fun _ hk => hk.elim) ?aF ?aO ?aB ?aS ?aL ?_; (case aP => exact rfl); (case aB => exact (by repeat (first | (with_reducible first | exact HB.out | apply below_alloc | apply pw_below_drewN | apply below_drew1) | exact HB.out))); (case aF => exact (fun _ _ => trivial)); (case aO => exact (by (with_reducible repeat (first | apply Kd.R_alloc | apply Kd.R_drewN | apply Kd.R_drew)); exact HO_7.out)); (case aS => exact (below_size (by repeat (first | (with_reducible first | exact HB.out | apply below_alloc | apply pw_below_drewN | apply below_drew1) | exact HB.out)))); (case aL => have := LMc17.out; omega); intro v325 w18 ho hb hg hat; rw [← Ny324.out] at ho; have n0_ := Aside0.mk (hb); have n1_ := Aside0.mk (ho); clear HB; clear HO_7; have HB := n0_; have HO326 := n1_; clear n0_ n1_; clear ho hb hg hat))
           go_roundg kj3
           case measure => have := HK1.out; have := HJ3.out; omega
           case rel => exact ⟨(y324), (wrap64 (x8_1 + 1)), (by first | rfl | (simp; done) | (simp [*]; done)), H', ⟨by have := HK1.out; have := HJ3.out; omega⟩, ⟨by (with_reducible repeat (first | apply Kd.R_alloc | apply Kd.R_drewN | apply Kd.R_drew)); exact HO326.out⟩, ⟨by repeat (first | (with_reducible first | exact HB.out | apply below_alloc | apply pw_below_drewN | apply below_drew1) | exact HB.out)⟩⟩
          ·
           rw [if_neg c17] at H
           exact absurd H (by simp)
       ·
        rw [if_neg c8] at H
        exact absurd H (by simp)
      ·
       rw [if_neg c7] at H
       exact absurd H (by simp)
     ·
      replace c6 := Bool.eq_false_iff.mpr c6
      subst c6
      have H1 : (if (x7_1.length : Int) = 0 then (if x7_1.length < 17592186044416 then (some (x7_1 ++ [1])) else (none)) else (some x7_1)) = some r := by rw [if_neg (show ¬ (false = true) by decide)] at H; exact H
      clear H
      have H := H1
      clear H1
      by_cases c19 : (x7_1.length : Int) = 0
      ·
       rw [if_pos c19] at H
       have c19b0 : ((x7_1.length : Int) == 0) = true := beq_iff_eq.mpr c19
       have c19b1 : ((x7_1.length : Int) != 0) = false := bne_eq_false_iff_eq.mpr c19
       clear c19
       by_cases c20 : x7_1.length < 17592186044416
       ·
        rw [if_pos c20] at H
        have LMc20 := Aside0.mk c20
        clear c20
        obtain ⟨y327, hy327⟩ : ∃ y_ : List Int, y_ = (x7_1 ++ [1]) := ⟨_, rfl⟩
        replace H : (some y327) = some r := by first | (rw [hy327]; with_reducible exact H) | (have H2_ := (Option.bind_some _ _).symm.trans H; rw [hy327]; with_reducible exact H2_) | (have H2_ := (Option.bind_some _ _).symm.trans H; with_reducible exact H2_) | with_reducible exact H | (rw [hy327]; exact H) | exact H
        have Ny327 := Aside0.mk hy327
        clear hy327
        obtain rfl := Option.some.inj H
        obtain ⟨Ao21, co21, eo21⟩ := Kd.R_slice HO_7.out
        subst eo21
        go_wp2_with (first | ((with_reducible refine gate_builtin (b := .append) (xs := #[.tmp 43, .tmp 44]) rfl ?_); at_builtin; refine Kd.R_append (Kd.int .i64) (w0 := w) w.heap.size rfl (.tmp 43) (.tmp 44) 22 3 (.int .i64 0) 8 rfl Try.underlying22 info3 rfl (by decide) (by omega) (.slice Ao21 x7_1.length co21) x7_1 1 [.int .i64 1] (fun _ => True) (fun _ => False) rfl rfl ?aP (fun _ hk => hk.elim) ?aF ?aO ?aB ?aS ?aL ?_; (case aP => exact rfl); (case aB => exact (by repeat (first | (with_reducible first | exact HB.out | apply below_alloc | apply pw_below_drewN | apply below_drew1) | exact HB.out))); (case aF => exact (fun _ _ => trivial)); (case aO => exact (by (with_reducible repeat (first | apply Kd.R_alloc | apply Kd.R_drewN | apply Kd.R_drew)); exact HO_7.out)); (case aS => exact (below_size (by repeat (first | (with_reducible first | exact HB.out | apply below_alloc | apply pw_below_drewN | apply below_drew1) | exact HB.out)))); (case aL => have := LMc20.out; omega); intro v328 w22 ho hb hg hat; rw [← Ny327.out] at ho; have n0_ := Aside0.mk (hb); have n1_ := Aside0.mk (ho); clear HB; clear HO_7; have HB := n0_; have HO329 := n1_; clear n0_ n1_; clear ho hb hg hat))
        go_ret
        exact ⟨_, by first | rfl | (simp [errW_none, errW_some] <;> rfl) | (simp [*, errW_none, errW_some] <;> rfl), by (with_reducible repeat (first | apply Kd.R_alloc | apply Kd.R_drewN | apply Kd.R_drew)); exact HO329.out, by repeat (first | (with_reducible first | exact HB.out | apply below_alloc | apply pw_below_drewN | apply below_drew1) | exact HB.out)⟩
       ·
        rw [if_neg c20] at H
        exact absurd H (by simp)
      ·
       rw [if_neg c19] at H
       have c19b0 : ((x7_1.length : Int) == 0) = false := beq_eq_false_iff_ne.mpr c19
       have c19b1 : ((x7_1.length : Int) != 0) = true := bne_iff_ne.mpr c19
       have c19b2 : ¬ (x7_1 = []) := fun h_ => c19 (by rw [h_]; rfl)
       obtain rfl := Option.some.inj H
       obtain ⟨Ao23, co23, eo23⟩ := Kd.R_slice HO_7.out
       subst eo23
       go_wp2
       go_ret
       exact ⟨_, by first | rfl | (simp [errW_none, errW_some] <;> rfl) | (simp [*, errW_none, errW_some] <;> rfl), by (with_reducible repeat (first | apply Kd.R_alloc | apply Kd.R_drewN | apply Kd.R_drew)); exact HO_7.out, by repeat (first | (with_reducible first | exact HB.out | apply below_alloc | apply pw_below_drewN | apply below_drew1) | exact HB.out)⟩
end Go.Proofs.Ytcpojohpmcnnhaa.PA

set_option linter.unusedVariables false
set_option linter.unusedSimpArgs false
namespace Go.Proofs.Ytcpojohpmcnnhaa.L
open Go.RowKit Go.Proofs.YtcpojohpmcnnhaaW.PrintWords Go.Proofs.YtcpojohpmcnnhaaW.PrintLast Go.Proofs.YtcpojohpmcnnhaaW.PrintMore
open Go.Proofs.Ytcpojohpmcnnhaa.PA Go.Proofs.Ytcpojohpmcnnhaa.A Go.Proofs.Ytcpojohpmcnnhaa.K
def modI (x n : Int) : Int := Int.tmod (IntKind.u64.wrap x) n
theorem u64_nn (x : Int) : 0 ≤ IntKind.u64.wrap x := by
  have e : IntKind.u64.wrap x = x % 18446744073709551616 := by simp [IntKind.wrap, IntKind.bits, IntKind.signed]
  rw [e]; omega
theorem u64_small {x : Int} (h : 0 ≤ x) (h2 : x ≤ 1000000000000) : IntKind.u64.wrap x = x := by
  have e : IntKind.u64.wrap x = x % 18446744073709551616 := by simp [IntKind.wrap, IntKind.bits, IntKind.signed]
  rw [e]; omega
theorem modI_bd (x : Int) {n : Int} (h : 1 ≤ n) : 0 ≤ modI x n ∧ modI x n < n := by
  unfold modI
  have h0 := u64_nn x
  rw [Int.tmod_eq_emod_of_nonneg h0]
  exact ⟨Int.emod_nonneg _ (by omega), Int.emod_lt_of_pos _ (by omega)⟩
theorem mod_all (x : Int) {n : Int} (h : 1 ≤ n) (h2 : n ≤ 1000000000000) : turndownlaw06_mod.f x n = some (modI x n) := by
  unfold turndownlaw06_mod.f
  rw [u64_small (by omega) h2, if_neg (by omega)]
  have := modI_bd x h
  unfold modI at this ⊢
  congr 1
  unfold wrap64
  omega
theorem tame_ev (l : List Int) {most : Nat} {low : Int} (hl : l.length ≤ 17592186044416) (hm : 1 ≤ most) (hm2 : most ≤ 1000) (h0 : 0 ≤ low) (h1 : low ≤ 1) : ∃ w, Ev (fun k => turndownlaw06_tame.f k l (most : Int) low) w ∧ 1 ≤ w.length ∧ w.length ≤ most ∧ ∀ x, x ∈ w → low ≤ x ∧ x ≤ 1073741824 := by
  have fin : ∀ (out : List Int) (q : Nat), out.length ≤ most → (∀ x, x ∈ out → low ≤ x ∧ x ≤ 1073741824) → ∃ w, Ev (fun k => turndownlaw06_tame.j1 k l (most : Int) low out (q : Int) false) w ∧ 1 ≤ w.length ∧ w.length ≤ most ∧ ∀ x, x ∈ w → low ≤ x ∧ x ≤ 1073741824 := by
    intro out q ho hx
    by_cases h : (out.length : Int) = 0
    · refine ⟨out ++ [1], Ev.step (fun k => ?_) (Ev.now _), by simp, by simp; omega, fun x hx' => ?_⟩
      · rw [turndownlaw06_tame.j1, if_neg (by simp), if_pos h, if_pos (by omega)]
      · rcases List.mem_append.1 hx' with hx' | hx'
        · exact hx x hx'
        · rw [List.mem_singleton.1 hx']; omega
    · refine ⟨out, Ev.step (fun k => ?_) (Ev.now _), by omega, ho, hx⟩
      rw [turndownlaw06_tame.j1, if_neg (by simp), if_neg h]
  have key : ∀ e q (out : List Int), q + e = min l.length most → out.length = q → (∀ x, x ∈ out → low ≤ x ∧ x ≤ 1073741824) → ∃ w, Ev (fun k => turndownlaw06_tame.l0 k l (most : Int) low out (q : Int)) w ∧ 1 ≤ w.length ∧ w.length ≤ most ∧ ∀ x, x ∈ w → low ≤ x ∧ x ≤ 1073741824 := by
    intro e
    induction e with
    | zero =>
      intro q out hq ho hx
      obtain ⟨w, hw, h3⟩ := fin out q (by omega) hx
      refine ⟨w, Ev.step (fun k => ?_) hw, h3⟩
      rw [turndownlaw06_tame.l0]
      by_cases h : (q : Int) < (l.length : Int)
      · rw [if_pos h, decide_eq_false (show ¬ (q : Int) < (most : Int) by omega)]
      · rw [if_neg h]
    | succ e ih =>
      intro q out hq ho hx
      have hql : q < l.length := by omega
      have hqm : q < most := by omega
      obtain ⟨y, hy, hstep⟩ : ∃ y, (low ≤ y ∧ y ≤ 1073741824) ∧ ∀ k, turndownlaw06_tame.j1 (k + 1) l (most : Int) low out (q : Int) true = turndownlaw06_tame.l0 k l (most : Int) low (out ++ [y]) ((q + 1 : Nat) : Int) := by
        have hm3 := modI_bd (l.getD q 0) (n := 1000) (by omega)
        have hm4 : wrap64 (low + modI (l.getD q 0) 1000) = low + modI (l.getD q 0) 1000 := by unfold wrap64; omega
        by_cases c1 : l.getD q 0 < low
        · refine ⟨low + modI (l.getD q 0) 1000, by omega, fun k => ?_⟩
          rw [turndownlaw06_tame.j1, if_pos rfl, if_pos (by omega), if_pos (by omega), rd_nat, if_pos c1, mod_all _ (by omega) (by omega)]
          simp only [Option.bind_some]
          rw [if_pos (by omega), hm4, w1 (by omega)]
        · by_cases c2 : l.getD q 0 > 1073741824
          · refine ⟨low + modI (l.getD q 0) 1000, by omega, fun k => ?_⟩
            rw [turndownlaw06_tame.j1, if_pos rfl, if_pos (by omega), if_pos (by omega), rd_nat, if_neg c1, if_pos c2, mod_all _ (by omega) (by omega)]
            simp only [Option.bind_some]
            rw [if_pos (by omega), hm4, w1 (by omega)]
          · refine ⟨l.getD q 0, by omega, fun k => ?_⟩
            rw [turndownlaw06_tame.j1, if_pos rfl, if_pos (by omega), if_pos (by omega), rd_nat, if_neg c1, if_neg c2, if_pos (by omega), w1 (by omega)]
      obtain ⟨w, hw, h3⟩ := ih (q + 1) (out ++ [y]) (by omega) (by simp [ho]) (fun x hx' => by
        rcases List.mem_append.1 hx' with hx' | hx'
        · exact hx x hx'
        · rw [List.mem_singleton.1 hx']; exact hy)
      refine ⟨w, Ev.step (fun k => ?_) (Ev.step (g := fun k => turndownlaw06_tame.j1 k l (most : Int) low out (q : Int) true) hstep hw), h3⟩
      rw [turndownlaw06_tame.l0, if_pos (by omega), decide_eq_true (show (q : Int) < (most : Int) by omega)]
  exact key (min l.length most) 0 [] (by omega) rfl (fun x hx => by cases hx)
theorem getD_mem {l : List Int} {s : Nat} (hs : s < l.length) : l.getD s 0 ∈ l := by
  rw [List.getD_eq_getElem?_getD, List.getElem?_eq_getElem hs]
  exact List.getElem_mem hs
end Go.Proofs.Ytcpojohpmcnnhaa.L

set_option linter.unusedVariables false
set_option linter.unusedSimpArgs false
namespace Go.Proofs.Ytcpojohpmcnnhaa.L
open Go.RowKit Go.Proofs.YtcpojohpmcnnhaaW.PrintWords Go.Proofs.YtcpojohpmcnnhaaW.PrintLast Go.Proofs.YtcpojohpmcnnhaaW.PrintMore
open Go.Proofs.Ytcpojohpmcnnhaa.PA Go.Proofs.Ytcpojohpmcnnhaa.A
theorem loop_toList (a : ByteArray) : ∀ d i r, i + d = a.size → ByteArray.toList.loop a i r = r.reverse ++ a.data.toList.drop i
  | 0, i, r, h => by
    have hl : a.data.toList.length = a.size := by rw [Array.length_toList]; rfl
    unfold ByteArray.toList.loop
    rw [if_neg (by omega), List.drop_of_length_le (by omega), List.append_nil]
  | d + 1, i, r, h => by
    have hl : a.data.toList.length = a.size := by rw [Array.length_toList]; rfl
    have ih := loop_toList a d (i + 1) (a.get! i :: r) (by omega)
    unfold ByteArray.toList.loop
    rw [if_pos (by omega), ih]
    have e : a.get! i = a.data.toList[i]'(by omega) := by
      have hi : i < a.data.size := by rw [← Array.length_toList]; omega
      show a.data[i]! = _
      rw [getElem!_pos a.data i hi]
      rfl
    rw [List.drop_eq_getElem_cons (show i < a.data.toList.length by omega), e]
    simp
theorem toList_data (a : ByteArray) : a.toList = a.data.toList := by
  have := loop_toList a a.size 0 [] (by omega)
  unfold ByteArray.toList
  rw [this]; simp
theorem data_len (s : ByteArray) : s.data.toList.length = s.size := by rw [Array.length_toList]; rfl
end Go.Proofs.Ytcpojohpmcnnhaa.L

set_option linter.unusedVariables false
set_option linter.unusedSimpArgs false
namespace Go.Proofs.Ytcpojohpmcnnhaa.L
open Go.RowKit Go.Proofs.YtcpojohpmcnnhaaW.PrintWords Go.Proofs.YtcpojohpmcnnhaaW.PrintLast Go.Proofs.YtcpojohpmcnnhaaW.PrintMore
open Go.Proofs.Ytcpojohpmcnnhaa.PA Go.Proofs.Ytcpojohpmcnnhaa.A
theorem ints_ev {a : List Int} (ha : a.length ≤ 1000000) : Ev (fun k => turndownlaw06_ints.f k a a) true := by
  have key : ∀ e q, q + e = a.length → Ev (fun k => turndownlaw06_ints.l0 k a a (q : Int)) true := by
    intro e
    induction e with
    | zero =>
      intro q hq
      refine Ev.step (fun k => ?_) (Ev.now _)
      rw [turndownlaw06_ints.l0, if_neg (by omega)]
    | succ e ih =>
      intro q hq
      refine Ev.step (fun k => ?_) (ih (q + 1) (by omega))
      rw [turndownlaw06_ints.l0, if_pos (by omega), if_pos (by omega), if_pos (by omega), if_pos rfl, L.w1 (by omega)]
  refine Ev.congr (fun k => ?_) (key a.length 0 (by omega))
  unfold turndownlaw06_ints.f
  rw [if_pos rfl]; rfl
def resD (l : List Int) (s : ByteArray) : List Int × Bool := match decD (wordN l) l.length s.data.toList with
  | some o => (o, true)
  | none => ([], false)
theorem rd_word {l : List Int} (q : Nat) : rdOf ByteArray.empty (wordsL l) (q : Int) = (wordsL l).getD q ⟨#[]⟩ := by unfold rdOf; rw [Int.toNat_natCast]; rfl
theorem wd_size (l : List Int) (q : Nat) : ((wordsL l).getD q ⟨#[]⟩).size = (wordN l q).length := by
  unfold wordN
  rw [data_len]
theorem dec_l1 {l : List Int} {s : ByteArray} {out : List Int} {f : Nat} {r : List Int × Bool} (hl : l.length ≤ 64) (hw : ∀ q, q < l.length → (wordN l q).length ≤ 32) (hs : s.size ≤ 65536) (hf : f ≤ s.size) (hout : out.length ≤ 65536)
    (h1 : ∀ q, q < l.length → MatchW (wordN l) s.data.toList f q → Ev (fun k => turndownref06_Decode.l0 k s (wordsL l) (out ++ [(q : Int)]) ((f + (wordN l q).length : Nat) : Int)) r)
    (h2 : (∀ q, q < l.length → ¬ MatchW (wordN l) s.data.toList f q) → r = ([], false)) :
    ∀ e i, i + e = l.length → (∀ q, q < i → ¬ MatchW (wordN l) s.data.toList f q) → Ev (fun k => turndownref06_Decode.l1 k s (wordsL l) out (f : Int) (-1) (i : Int)) r := by
  have hwl := wordsL_len l
  intro e
  induction e with
  | zero =>
    intro i hi hno
    rw [h2 (fun q hq => hno q (by omega))]
    refine Ev.step (f := fun k => turndownref06_Decode.j2 k s (wordsL l) out (f : Int) (-1) (i : Int) false) (fun k => ?_) (Ev.step (fun k => ?_) (Ev.now _))
    · rw [turndownref06_Decode.l1, if_neg (by omega)]
    · rw [turndownref06_Decode.j2, if_neg (by decide), if_pos (by omega)]
  | succ e ih =>
    intro i hi hno
    have hil : i < l.length := by omega
    have hz := hw i hil
    have hws := wd_size l i
    have hwrap : wrap64 ((f : Int) + (((wordsL l).getD i ⟨#[]⟩).size : Int)) = ((f + (wordN l i).length : Nat) : Int) := by rw [hws, wsm (by omega)]; omega
    have hT := data_len s
    refine Ev.step (f := fun k => turndownref06_Decode.j2 k s (wordsL l) out (f : Int) (-1) (i : Int) true) (fun k => ?_) ?_
    · rw [turndownref06_Decode.l1, if_pos (by omega)]; rfl
    by_cases hm : MatchW (wordN l) s.data.toList f i
    · have hgo := h1 i hil hm
      have hfit := hm.fit
      have hpos := hm.pos
      refine Ev.step (f := fun k => turndownref06_Decode.l1 k s (wordsL l) out (f : Int) (i : Int) (wrap64 ((i : Int) + 1))) (fun k => ?_) ?_
      · rw [turndownref06_Decode.j2, if_pos rfl, if_pos (by omega), if_pos (by omega), rd_word, if_pos (by omega), hwrap, if_pos (by omega), if_pos (by omega), if_pos (by omega), Int.toNat_natCast, Int.toNat_natCast,
          if_pos (by rw [toList_data, toList_data, extract_piece, hm.is]; rfl)]
      · refine Ev.step (f := fun k => turndownref06_Decode.j2 k s (wordsL l) out (f : Int) (i : Int) (wrap64 ((i : Int) + 1)) false) (fun k => ?_) (Ev.step (fun k => ?_) hgo)
        · rw [turndownref06_Decode.l1, decide_eq_false (show ¬ (i : Int) < 0 by omega)]
          split <;> rfl
        · rw [turndownref06_Decode.j2, if_neg (by decide), if_neg (by omega), if_pos (by omega), if_pos (by omega), if_pos (by omega), rd_word, hwrap]
    · refine Ev.step (fun k => ?_) (ih (i + 1) (by omega) (fun q hq => by
        by_cases e : q = i
        · rw [e]; exact hm
        · exact hno q (by omega)))
      rw [turndownref06_Decode.j2, if_pos rfl, if_pos (by omega), if_pos (by omega), rd_word, hwrap, L.w1 (by omega)]
      by_cases c1 : (((wordsL l).getD i ⟨#[]⟩).size : Int) > 0
      · rw [if_pos c1]
        by_cases c2 : ((f + (wordN l i).length : Nat) : Int) ≤ (s.size : Int)
        · rw [if_pos c2, if_pos (by omega), if_pos (by omega), Int.toNat_natCast, Int.toNat_natCast, if_neg]
          intro he
          rw [toList_data, toList_data, extract_piece] at he
          exact hm ⟨by omega, by omega, he⟩
        · rw [if_neg c2]
      · rw [if_neg c1]
theorem dec_l0 {l : List Int} {s : ByteArray} (hl : l.length ≤ 64) (hw : ∀ q, q < l.length → (wordN l q).length ≤ 32) (hs : s.size ≤ 65536) (H : ApartW (wordN l) l.length) :
    ∀ d f out, f + d = s.size → runD (wordN l) l.length s.data.toList f = some (f, out) → Ev (fun k => turndownref06_Decode.l0 k s (wordsL l) out (f : Int)) (resD l s) := by
  intro d
  induction d using Nat.strongRecOn with
  | ind d ih =>
    intro f out hd hr
    have hT := data_len s
    have hle := runD_le hr
    by_cases h0 : d = 0
    · obtain rfl : f = s.size := by omega
      rw [← hT] at hr
      have hde := dec_end hr
      have : resD l s = (out, true) := by unfold resD; rw [hde]
      rw [this]
      refine Ev.step (fun k => ?_) (Ev.now _)
      rw [turndownref06_Decode.l0, if_neg (by omega)]
    · refine Ev.step (fun k => ?_) (dec_l1 (f := f) (out := out) (r := resD l s) hl hw hs (by omega) (by omega) (fun q hq hm => ?_) (fun hno => ?_) l.length 0 (by omega) (fun q hq => by omega))
      · rw [turndownref06_Decode.l0, if_pos (by omega)]; rfl
      · have hfit := hm.fit
        have hpos := hm.pos
        exact ih (d - (wordN l q).length) (by omega) _ _ (by omega) (run_match H hr hq hm)
      · unfold resD
        rw [dec_none hr (by omega) hno]
theorem refDecode_ev {l : List Int} {s : ByteArray} (h1 : 1 ≤ l.length) (h64 : l.length ≤ 64) (hok : okB 0 32 l = true) (hsum : sumI l ≤ 4294967296) (hs : s.size ≤ 65536) : Ev (fun k => turndownref06_Decode.f k l s) (resD l s) := by
  unfold turndownref06_Decode.f
  refine Ev.bind (refWords_ev h1 h64 hok hsum) ?_
  exact dec_l0 h64 (fun q hq => by
    have e1 := wordN_len hok hq
    have e2 := ok_at hok hq
    omega) hs (words_ap hok hsum) s.size 0 [] (by omega) rfl
theorem decD_len {wd : Nat → List UInt8} {n : Nat} {T : List UInt8} {o : List Int} (h : decD wd n T = some o) : o.length ≤ T.length := by
  unfold decD at h
  cases hr : runD wd n T T.length with
  | none => rw [hr] at h; cases h
  | some p =>
    obtain ⟨f, out⟩ := p
    rw [hr] at h
    simp only at h
    split at h
    · cases h
    · obtain rfl := Option.some.inj h
      exact (runD_le hr).2
end Go.Proofs.Ytcpojohpmcnnhaa.L
