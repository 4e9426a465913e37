/- For all lists and factors the statement CodeLimits holds: Go's function returns true and changes nothing that existed. -/
import Derived.SizedLaws
import Derived.ChangeSlices
import Derived.Test.YtcpojohpmcnnhaaRows
import Derived.WalkKit
import Derived.ProofKit
import Derived.OpenShut
import Derived.ShutString
import Derived.ChangeOld
import Derived.Below
import Derived.Test.YtcpojohpmcnnhaaZb9
set_option linter.unusedSimpArgs false
set_option linter.unusedVariables false

namespace Go.Proofs.YtcpojohpmcnnhaaW.PrintWords
open Go.ChangeShapes Go.WideShapes
theorem sized_ints {H : Type} {enc : TypeId × Value → H} {P : Program} {W : World} {base : Nat} {spare : Nat → Bool} {held : Bool} {t e : TypeId} {k : IntKind} {a : Option Addr} {len cap : Nat} {d : DataW H} {ps : List MemPlace} {ts : List TypeId} {ds : List (DataW H)} {j : Nat}
    (hsz : (DataW.weightsEach P ts ds).all (· ≤ reachBytes) = true) (ht : ts[j]? = some t) (hd : ds[j]? = some d) (hu : P.underlying t = some (.slice e)) (he : P.underlying e = some (.int k)) (hc : P.cellsOf e = 1) {B : Nat} (hB : P.bytesOf e = B)
    (h : DataW.Trod enc P W base spare held t (.slice a len cap) d ps) : len * B ≤ 140737488351232 := by
  obtain ⟨fuel, hf⟩ := h
  rcases open_ints hu he hc hf with ⟨hcs, _⟩ | ⟨x, l, c, zs, hcs, _, hl, _, hz, hx, _, _⟩
  · simp [Value.cells] at hcs
    obtain ⟨rfl, rfl, rfl⟩ := hcs
    simp
  · simp [Value.cells] at hcs
    obtain ⟨rfl, rfl, rfl⟩ := hcs
    obtain ⟨hx, _⟩ := Prod.mk.inj hx
    subst hx
    have z := sized_slice hsz ht hd hu
    rw [hB] at z
    have hl2 : len ≤ zs.length := by
      rw [hz]
      split
      · exact hl
      · exact Nat.le_refl _
    have h1 : (lits (H := H) k (zs.take len)).length + (lits (H := H) k (zs.drop len)).length = zs.length := by
      simp [lits]
      omega
    rw [h1] at z
    exact Nat.le_trans (Nat.mul_le_mul_right _ hl2) z
end Go.Proofs.YtcpojohpmcnnhaaW.PrintWords

namespace Go.Proofs.Ytcpojohpmcnnhaa.PA
open Go.RowKit Go.Proofs.YtcpojohpmcnnhaaW.PrintWords Go.Proofs.YtcpojohpmcnnhaaW.PrintLast Go.Proofs.YtcpojohpmcnnhaaW.PrintMore
attribute [local go_sem] max2_int min2_int max_two min_two max_three min_three max_four min_four
set_option linter.unusedVariables false
set_option linter.unusedSimpArgs false
def turndownlaw06_mod.f (a0 : Int) (a1 : Int) : Option (Int) := if (IntKind.u64.wrap (a1)) = 0 then (none) else (some (wrap64 (Int.tmod (IntKind.u64.wrap (a0)) (IntKind.u64.wrap (a1)))))
set_option maxHeartbeats 8000000 in
set_option maxRecDepth 100000 in
theorem turndownlaw06_mod.calls (a0 : Int) (a1 : Int) (r : Int) (w : World) (h : turndownlaw06_mod.f a0 a1 = some r) :
  Calls Try.prog 39 #[.int .i64 a0, .int .i64 a1] w fun e w' => e = .returned (.int .i64 r) ∧ Drawn0 w w' := by
 have H : (if (IntKind.u64.wrap (a1)) = 0 then (none) else (some (wrap64 (Int.tmod (IntKind.u64.wrap (a0)) (IntKind.u64.wrap (a1)))))) = some r := h
 clear h
 by_cases c3 : (IntKind.u64.wrap (a1)) = 0
 ·
  rw [if_pos c3] at H
  exact absurd H (by simp)
 ·
  rw [if_neg c3] at H
  have c3b0 : ((IntKind.u64.wrap (a1)) == 0) = false := beq_eq_false_iff_ne.mpr c3
  have c3b1 : ((IntKind.u64.wrap (a1)) != 0) = true := bne_iff_ne.mpr c3
  obtain rfl := Option.some.inj H
  go_enter Try.func39, Try.ntmps39
  go_wp2
  go_ret
  exact ⟨by first | rfl | (simp; done) | (simp [*]; done), by repeat (first | exact Drawn0.refl _ | apply Drawn0.step)⟩
end Go.Proofs.Ytcpojohpmcnnhaa.PA

namespace Go.Proofs.Ytcpojohpmcnnhaa.PA
open Go.RowKit Go.Proofs.YtcpojohpmcnnhaaW.PrintWords Go.Proofs.YtcpojohpmcnnhaaW.PrintLast Go.Proofs.YtcpojohpmcnnhaaW.PrintMore
attribute [local go_sem] max2_int min2_int max_two min_two max_three min_three max_four min_four
set_option linter.unusedVariables false
set_option linter.unusedSimpArgs false
mutual
def turndownlaw06_tame.l0 : Nat → List Int → Int → Int → List Int → Int → Option (List Int)
 | 0, _, _, _, _, _ => none
 | k + 1, x0, x1, x2, x7, x8 => if x8 < (x0.length : Int) then (turndownlaw06_tame.j1 k x0 x1 x2 x7 x8 (decide (x8 < x1))) else (turndownlaw06_tame.j1 k x0 x1 x2 x7 x8 false)
def turndownlaw06_tame.j1 : Nat → List Int → Int → Int → List Int → Int → Bool → Option (List Int)
 | 0, _, _, _, _, _, _ => none
 | k + 1, x0, x1, x2, x7, x8, x18 => if x18 = true then (if 0 ≤ x8 then (if x8 < (x0.length : Int) then (if (rd x0 x8) < x2 then ((turndownlaw06_mod.f (rd x0 x8) 1000).bind fun t324 => (if x7.length < 17592186044416 then (turndownlaw06_tame.l0 k x0 x1 x2 (x7 ++ [wrap64 (x2 + t324)]) (wrap64 (x8 + 1))) else (none))) else (if (rd x0 x8) > 1073741824 then ((turndownlaw06_mod.f (rd x0 x8) 1000).bind fun t328 => (if x7.length < 17592186044416 then (turndownlaw06_tame.l0 k x0 x1 x2 (x7 ++ [wrap64 (x2 + t328)]) (wrap64 (x8 + 1))) else (none))) else (if x7.length < 17592186044416 then (turndownlaw06_tame.l0 k x0 x1 x2 (x7 ++ [rd x0 x8]) (wrap64 (x8 + 1))) else (none)))) else (none)) else (none)) else (if (x7.length : Int) = 0 then (if x7.length < 17592186044416 then (some (x7 ++ [1])) else (none)) else (some x7))
end
def turndownlaw06_tame.f (k : Nat) (l0 : List Int) (a1 : Int) (a2 : Int) : Option (List Int) := turndownlaw06_tame.l0 k l0 a1 a2 ([] : List Int) 0
set_option maxHeartbeats 8000000 in
set_option maxRecDepth 100000 in
theorem turndownlaw06_tame.calls (k : Nat) (A0 : Option Addr) (c0 : Nat) (l0 : List Int) (a1 : Int) (a2 : Int) (r : List Int) (w : World) (hr0 : Kd.C (Kd.int .i64) w A0 l0.length l0) (hc0 : l0.length ≤ c0) (h : turndownlaw06_tame.f k l0 a1 a2 = some r) :
  Calls Try.prog 38 #[.slice A0 l0.length c0, .int .i64 a1, .int .i64 a2] w fun e w' => ∃ v0_ : Value, e = .returned (v0_) ∧ Kd.R (Kd.int .i64) 3 w' w.heap.size (fun _ => True) v0_ r ∧ Below w.heap.size w w' := by
 have HR0 := Aside0.mk hr0
 have HC0 := Aside0.mk hc0
 clear hr0 hc0
 have HB := Aside0.mk (Below.refl w.heap.size w)
 have H : (turndownlaw06_tame.l0 k l0 a1 a2 ([] : List Int) 0) = some r := h
 clear h
 have H' := Aside0.mk H
 clear H
 go_enter Try.func38, Try.ntmps38
 go_wp2
 go_loopg [7, 8] k (fun kq v7 v8 w' => ∃ (x7_1 : List Int) (x8_1 : Int), v8 = .int .i64 x8_1 ∧ Aside0 (turndownlaw06_tame.l0 kq l0 a1 a2 x7_1 x8_1 = some r) ∧ Aside0 (kq ≤ k) ∧ Aside0 (Kd.R (Kd.int .i64) 3 w' w.heap.size (fun _ => True) v7 x7_1) ∧ Aside0 (Below w.heap.size w w'))
 case atStart => exact ⟨(([] : List Int)), (0), (by first | rfl | (simp; done) | (simp [*]; done)), H', ⟨Nat.le_refl _⟩, ⟨by first | exact Kd.R_nil _ _ _ _ _ | exact Kd.N_nil _ _ _ _ _ | exact Kd.V_nil _ _ _ _ _ | exact Kd.Q_nil _ _ _ _ _ | exact Kd.S_nil _ _ _ _ _⟩, ⟨by repeat (first | (with_reducible first | exact HB.out | apply below_alloc | apply pw_below_drewN | apply below_drew1) | exact HB.out)⟩⟩
 case round =>
  clear H'
  try clear p2
  try clear c3
  obtain ⟨x7_1, x8_1, rfl, HA, HK1, HO_7, HB⟩ := hrel
  cases gk with
  | zero => exact absurd HA.out (by simp [turndownlaw06_tame.l0])
  | succ k1 =>
   have H := HA.out
   clear HA
   simp only [turndownlaw06_tame.l0] at H
   have HC4 := Aside0.mk H
   clear H
   go_upto_region 3 with (fail)
   go_cut [18] (fun v18 wc => ∃ (kq : Nat) (x18_3 : Bool), v18 = .bool x18_3 ∧ Aside0 (turndownlaw06_tame.j1 kq l0 a1 a2 x7_1 x8_1 x18_3 = some r) ∧ Aside0 (kq ≤ k1) ∧ Aside0 (Kd.R (Kd.int .i64) 3 wc w.heap.size (fun _ => True) u7 x7_1) ∧ Aside0 (Below w.heap.size w wc))
   case first =>
    have H := HC4.out
    clear HC4
    by_cases c5 : x8_1 < (l0.length : Int)
    ·
     rw [if_pos c5] at H
     have c5b0 : decide (x8_1 < (l0.length : Int)) = true := decide_eq_true c5
     clear c5
     (first | rw [c5b0] | (simp only [i64_w, i32_w]; rw [c5b0]) | skip)
     have H' := Aside0.mk H
     clear H
     go_wp2
     go_meet
     case rel => exact ⟨_, (decide (x8_1 < a1)), (by first | rfl | (simp; done) | (simp [*]; done)), H', ⟨by have := HK1.out; first | omega | exact Nat.le_refl _⟩, ⟨by (with_reducible repeat (first | apply Kd.R_alloc | apply Kd.R_drewN | apply Kd.R_drew)); exact HO_7.out⟩, ⟨by repeat (first | (with_reducible first | exact HB.out | apply below_alloc | apply pw_below_drewN | apply below_drew1) | exact HB.out)⟩⟩
    ·
     rw [if_neg c5] at H
     have c5b0 : decide (x8_1 < (l0.length : Int)) = false := decide_eq_false c5
     clear c5
     (first | rw [c5b0] | (simp only [i64_w, i32_w]; rw [c5b0]) | skip)
     have H' := Aside0.mk H
     clear H
     go_wp2
     go_meet
     case rel => exact ⟨_, (false), (by first | rfl | (simp; done) | (simp [*]; done)), H', ⟨by have := HK1.out; first | omega | exact Nat.le_refl _⟩, ⟨by (with_reducible repeat (first | apply Kd.R_alloc | apply Kd.R_drewN | apply Kd.R_drew)); exact HO_7.out⟩, ⟨by repeat (first | (with_reducible first | exact HB.out | apply below_alloc | apply pw_below_drewN | apply below_drew1) | exact HB.out)⟩⟩
   case rest =>
    clear HC4
    try clear p2
    try clear c3
    try clear c5
    try clear c5b0
    try clear p2
    obtain ⟨kq, x18_3, rfl, HA, HJ3, HO_7, HB⟩ := hcut
    cases kq with
    | zero => exact absurd HA.out (by simp [turndownlaw06_tame.j1])
    | succ kj3 =>
     have H := HA.out
     clear HA
     simp only [turndownlaw06_tame.j1] at H
     by_cases c6 : x18_3 = true
     ·
      subst c6
      have H1 : (if 0 ≤ x8_1 then (if x8_1 < (l0.length : Int) then (if (rd l0 x8_1) < a2 then ((turndownlaw06_mod.f (rd l0 x8_1) 1000).bind fun t324 => (if x7_1.length < 17592186044416 then (turndownlaw06_tame.l0 kj3 l0 a1 a2 (x7_1 ++ [wrap64 (a2 + t324)]) (wrap64 (x8_1 + 1))) else (none))) else (if (rd l0 x8_1) > 1073741824 then ((turndownlaw06_mod.f (rd l0 x8_1) 1000).bind fun t328 => (if x7_1.length < 17592186044416 then (turndownlaw06_tame.l0 kj3 l0 a1 a2 (x7_1 ++ [wrap64 (a2 + t328)]) (wrap64 (x8_1 + 1))) else (none))) else (if x7_1.length < 17592186044416 then (turndownlaw06_tame.l0 kj3 l0 a1 a2 (x7_1 ++ [rd l0 x8_1]) (wrap64 (x8_1 + 1))) else (none)))) else (none)) else (none)) = some r := by rw [if_pos rfl] at H; exact H
      clear H
      have H := H1
      clear H1
      by_cases c7 : 0 ≤ x8_1
      ·
       rw [if_pos c7] at H
       have c7b0 : decide (0 ≤ x8_1) = true := decide_eq_true c7
       clear c7
       by_cases c8 : x8_1 < (l0.length : Int)
       ·
        rw [if_pos c8] at H
        have c8b0 : decide (x8_1 < (l0.length : Int)) = true := decide_eq_true c8
        clear c8
        by_cases c9 : (rd l0 x8_1) < a2
        ·
         rw [if_pos c9] at H
         have c9b0 : decide ((rd l0 x8_1) < a2) = true := decide_eq_true c9
         clear c9
         replace H := Option.bind_eq_some_iff.mp H
         obtain ⟨t324, A100, H⟩ := H
         replace H : (if x7_1.length < 17592186044416 then (turndownlaw06_tame.l0 kj3 l0 a1 a2 (x7_1 ++ [wrap64 (a2 + t324)]) (wrap64 (x8_1 + 1))) else (none)) = some r := H
         have A10 := Aside0.mk A100
         clear A100
         by_cases c11 : x7_1.length < 17592186044416
         ·
          rw [if_pos c11] at H
          have LMc11 := Aside0.mk c11
          clear c11
          obtain ⟨y325, hy325⟩ : ∃ y_ : List Int, y_ = (x7_1 ++ [wrap64 (a2 + t324)]) := ⟨_, rfl⟩
          replace H : (turndownlaw06_tame.l0 kj3 l0 a1 a2 y325 (wrap64 (x8_1 + 1))) = some r := by first | (rw [hy325]; with_reducible exact H) | (have H2_ := (Option.bind_some _ _).symm.trans H; rw [hy325]; with_reducible exact H2_) | (have H2_ := (Option.bind_some _ _).symm.trans H; with_reducible exact H2_) | with_reducible exact H | (rw [hy325]; exact H) | exact H
          have Ny325 := Aside0.mk hy325
          clear hy325
          have H' := Aside0.mk H
          clear H
          have p323 : 0 ≤ (x8_1 : Int) := of_decide_eq_true (by first | (with_reducible assumption) | assumption)
          have q323 : x8_1 < (l0.length : Int) := of_decide_eq_true (by first | (with_reducible assumption) | assumption)
          obtain ⟨ad323, e323, hx323_0⟩ := Kd.at_int HR0.out x8_1 p323 q323
          cases e323
          replace hx323_0 := (HB.out.cell (World.block_lt_of_cell? w _ hx323_0)).trans hx323_0
          replace p323 := eq_true p323
          replace q323 := eq_true q323
          go_wp2_with (first | ((with_reducible refine gate_callee (f := 39) rfl ?_); refine goesL_ (some 34) rfl rfl Try.func39 (by kernel_rfl) rfl #[.int .i64 (rd l0 x8_1), .int .i64 1000] rfl (by (try simp only [List.map_toArray, List.map_cons, List.map_nil]); first | done | rfl | (simp only [List.length_drop, List.length_take]; rfl)) ?_; (with_reducible refine (turndownlaw06_mod.calls (rd l0 x8_1) 1000 t324 _ A10.out).mono ?_); rintro e w' ⟨rfl, ⟨nd, rfl⟩⟩; refine ⟨_, rfl, ?_⟩) | ((with_reducible refine gate_builtin (b := .append) (xs := #[.tmp 36, .tmp 38]) rfl ?_); at_builtin; refine Kd.R_append (Kd.int .i64) (w0 := w) w.heap.size rfl (.tmp 36) (.tmp 38) 22 3 (.int .i64 0) 8 rfl Try.underlying22 info3 rfl (by decide) (by omega) u7 x7_1 (wrap64 (a2 + t324)) [.int .i64 (wrap64 (a2 + t324))] (fun _ => True) (fun _ => False) rfl rfl ?aP (fun _ hk => hk.elim) ?aF ?aO ?aB ?aS ?aL ?_; (case aP => exact rfl); (case aB => exact (by repeat (first | (with_reducible first | exact HB.out | apply below_alloc | apply pw_below_drewN | apply below_drew1) | exact HB.out))); (case aF => exact (fun _ _ => trivial)); (case aO => exact (by (with_reducible repeat (first | apply Kd.R_alloc | apply Kd.R_drewN | apply Kd.R_drew)); exact HO_7.out)); (case aS => exact (below_size (by repeat (first | (with_reducible first | exact HB.out | apply below_alloc | apply pw_below_drewN | apply below_drew1) | exact HB.out)))); (case aL => have := LMc11.out; omega); intro v326 w12 ho hb hg hat; rw [← Ny325.out] at ho; have n0_ := Aside0.mk (hb); have n1_ := Aside0.mk (ho); clear HB; clear HO_7; have HB := n0_; have HO327 := n1_; clear n0_ n1_; clear ho hb hg hat))
          go_roundg kj3
          case measure => have := HK1.out; have := HJ3.out; omega
          case rel => exact ⟨(y325), (wrap64 (x8_1 + 1)), (by first | rfl | (simp; done) | (simp [*]; done)), H', ⟨by have := HK1.out; have := HJ3.out; omega⟩, ⟨by (with_reducible repeat (first | apply Kd.R_alloc | apply Kd.R_drewN | apply Kd.R_drew)); exact HO327.out⟩, ⟨by repeat (first | (with_reducible first | exact HB.out | apply below_alloc | apply pw_below_drewN | apply below_drew1) | exact HB.out)⟩⟩
         ·
          rw [if_neg c11] at H
          exact absurd H (by simp)
        ·
         rw [if_neg c9] at H
         have c9b0 : decide ((rd l0 x8_1) < a2) = false := decide_eq_false c9
         clear c9
         by_cases c13 : (rd l0 x8_1) > 1073741824
         ·
          rw [if_pos c13] at H
          have c13b0 : decide (1073741824 < (rd l0 x8_1)) = true := decide_eq_true c13
          clear c13
          replace H := Option.bind_eq_some_iff.mp H
          obtain ⟨t328, A140, H⟩ := H
          replace H : (if x7_1.length < 17592186044416 then (turndownlaw06_tame.l0 kj3 l0 a1 a2 (x7_1 ++ [wrap64 (a2 + t328)]) (wrap64 (x8_1 + 1))) else (none)) = some r := H
          have A14 := Aside0.mk A140
          clear A140
          by_cases c15 : x7_1.length < 17592186044416
          ·
           rw [if_pos c15] at H
           have LMc15 := Aside0.mk c15
           clear c15
           obtain ⟨y329, hy329⟩ : ∃ y_ : List Int, y_ = (x7_1 ++ [wrap64 (a2 + t328)]) := ⟨_, rfl⟩
           replace H : (turndownlaw06_tame.l0 kj3 l0 a1 a2 y329 (wrap64 (x8_1 + 1))) = some r := by first | (rw [hy329]; with_reducible exact H) | (have H2_ := (Option.bind_some _ _).symm.trans H; rw [hy329]; with_reducible exact H2_) | (have H2_ := (Option.bind_some _ _).symm.trans H; with_reducible exact H2_) | with_reducible exact H | (rw [hy329]; exact H) | exact H
           have Ny329 := Aside0.mk hy329
           clear hy329
           have H' := Aside0.mk H
           clear H
           have p323 : 0 ≤ (x8_1 : Int) := of_decide_eq_true (by first | (with_reducible assumption) | assumption)
           have q323 : x8_1 < (l0.length : Int) := of_decide_eq_true (by first | (with_reducible assumption) | assumption)
           obtain ⟨ad323, e323, hx323_0⟩ := Kd.at_int HR0.out x8_1 p323 q323
           cases e323
           replace hx323_0 := (HB.out.cell (World.block_lt_of_cell? w _ hx323_0)).trans hx323_0
           replace p323 := eq_true p323
           replace q323 := eq_true q323
           go_wp2_with (first | ((with_reducible refine gate_callee (f := 39) rfl ?_); refine goesL_ (some 34) rfl rfl Try.func39 (by kernel_rfl) rfl #[.int .i64 (rd l0 x8_1), .int .i64 1000] rfl (by (try simp only [List.map_toArray, List.map_cons, List.map_nil]); first | done | rfl | (simp only [List.length_drop, List.length_take]; rfl)) ?_; (with_reducible refine (turndownlaw06_mod.calls (rd l0 x8_1) 1000 t328 _ A14.out).mono ?_); rintro e w' ⟨rfl, ⟨nd, rfl⟩⟩; refine ⟨_, rfl, ?_⟩) | ((with_reducible refine gate_builtin (b := .append) (xs := #[.tmp 36, .tmp 38]) rfl ?_); at_builtin; refine Kd.R_append (Kd.int .i64) (w0 := w) w.heap.size rfl (.tmp 36) (.tmp 38) 22 3 (.int .i64 0) 8 rfl Try.underlying22 info3 rfl (by decide) (by omega) u7 x7_1 (wrap64 (a2 + t328)) [.int .i64 (wrap64 (a2 + t328))] (fun _ => True) (fun _ => False) rfl rfl ?aP (fun _ hk => hk.elim) ?aF ?aO ?aB ?aS ?aL ?_; (case aP => exact rfl); (case aB => exact (by repeat (first | (with_reducible first | exact HB.out | apply below_alloc | apply pw_below_drewN | apply below_drew1) | exact HB.out))); (case aF => exact (fun _ _ => trivial)); (case aO => exact (by (with_reducible repeat (first | apply Kd.R_alloc | apply Kd.R_drewN | apply Kd.R_drew)); exact HO_7.out)); (case aS => exact (below_size (by repeat (first | (with_reducible first | exact HB.out | apply below_alloc | apply pw_below_drewN | apply below_drew1) | exact HB.out)))); (case aL => have := LMc15.out; omega); intro v330 w16 ho hb hg hat; rw [← Ny329.out] at ho; have n0_ := Aside0.mk (hb); have n1_ := Aside0.mk (ho); clear HB; clear HO_7; have HB := n0_; have HO331 := n1_; clear n0_ n1_; clear ho hb hg hat))
           go_roundg kj3
           case measure => have := HK1.out; have := HJ3.out; omega
           case rel => exact ⟨(y329), (wrap64 (x8_1 + 1)), (by first | rfl | (simp; done) | (simp [*]; done)), H', ⟨by have := HK1.out; have := HJ3.out; omega⟩, ⟨by (with_reducible repeat (first | apply Kd.R_alloc | apply Kd.R_drewN | apply Kd.R_drew)); exact HO331.out⟩, ⟨by repeat (first | (with_reducible first | exact HB.out | apply below_alloc | apply pw_below_drewN | apply below_drew1) | exact HB.out)⟩⟩
          ·
           rw [if_neg c15] at H
           exact absurd H (by simp)
         ·
          rw [if_neg c13] at H
          have c13b0 : decide (1073741824 < (rd l0 x8_1)) = false := decide_eq_false c13
          clear c13
          by_cases c17 : x7_1.length < 17592186044416
          ·
           rw [if_pos c17] at H
           have LMc17 := Aside0.mk c17
           clear c17
           obtain ⟨y332, hy332⟩ : ∃ y_ : List Int, y_ = (x7_1 ++ [rd l0 x8_1]) := ⟨_, rfl⟩
           replace H : (turndownlaw06_tame.l0 kj3 l0 a1 a2 y332 (wrap64 (x8_1 + 1))) = some r := by first | (rw [hy332]; with_reducible exact H) | (have H2_ := (Option.bind_some _ _).symm.trans H; rw [hy332]; with_reducible exact H2_) | (have H2_ := (Option.bind_some _ _).symm.trans H; with_reducible exact H2_) | with_reducible exact H | (rw [hy332]; exact H) | exact H
           have Ny332 := Aside0.mk hy332
           clear hy332
           have H' := Aside0.mk H
           clear H
           have p323 : 0 ≤ (x8_1 : Int) := of_decide_eq_true (by first | (with_reducible assumption) | assumption)
           have q323 : x8_1 < (l0.length : Int) := of_decide_eq_true (by first | (with_reducible assumption) | assumption)
           obtain ⟨ad323, e323, hx323_0⟩ := Kd.at_int HR0.out x8_1 p323 q323
           cases e323
           replace hx323_0 := (HB.out.cell (World.block_lt_of_cell? w _ hx323_0)).trans hx323_0
           replace p323 := eq_true p323
           replace q323 := eq_true q323
           go_wp2_with (first | ((with_reducible refine gate_builtin (b := .append) (xs := #[.tmp 36, .tmp 38]) rfl ?_); at_builtin; refine Kd.R_append (Kd.int .i64) (w0 := w) w.heap.size rfl (.tmp 36) (.tmp 38) 22 3 (.int .i64 0) 8 rfl Try.underlying22 info3 rfl (by decide) (by omega) u7 x7_1 (rd l0 x8_1) [.int .i64 (rd l0 x8_1)] (fun _ => True) (fun _ => False) rfl rfl ?aP (fun _ hk => hk.elim) ?aF ?aO ?aB ?aS ?aL ?_; (case aP => exact rfl); (case aB => exact (by repeat (first | (with_reducible first | exact HB.out | apply below_alloc | apply pw_below_drewN | apply below_drew1) | exact HB.out))); (case aF => exact (fun _ _ => trivial)); (case aO => exact (by (with_reducible repeat (first | apply Kd.R_alloc | apply Kd.R_drewN | apply Kd.R_drew)); exact HO_7.out)); (case aS => exact (below_size (by repeat (first | (with_reducible first | exact HB.out | apply below_alloc | apply pw_below_drewN | apply below_drew1) | exact HB.out)))); (case aL => have := LMc17.out; omega); intro v333 w18 ho hb hg hat; rw [← Ny332.out] at ho; have n0_ := Aside0.mk (hb); have n1_ := Aside0.mk (ho); clear HB; clear HO_7; have HB := n0_; have HO334 := n1_; clear n0_ n1_; clear ho hb hg hat))
           go_roundg kj3
           case measure => have := HK1.out; have := HJ3.out; omega
           case rel => exact ⟨(y332), (wrap64 (x8_1 + 1)), (by first | rfl | (simp; done) | (simp [*]; done)), H', ⟨by have := HK1.out; have := HJ3.out; omega⟩, ⟨by (with_reducible repeat (first | apply Kd.R_alloc | apply Kd.R_drewN | apply Kd.R_drew)); exact HO334.out⟩, ⟨by repeat (first | (with_reducible first | exact HB.out | apply below_alloc | apply pw_below_drewN | apply below_drew1) | exact HB.out)⟩⟩
          ·
           rw [if_neg c17] at H
           exact absurd H (by simp)
       ·
        rw [if_neg c8] at H
        exact absurd H (by simp)
      ·
       rw [if_neg c7] at H
       exact absurd H (by simp)
     ·
      replace c6 := Bool.eq_false_iff.mpr c6
      subst c6
      have H1 : (if (x7_1.length : Int) = 0 then (if x7_1.length < 17592186044416 then (some (x7_1 ++ [1])) else (none)) else (some x7_1)) = some r := by rw [if_neg (show ¬ (false = true) by decide)] at H; exact H
      clear H
      have H := H1
      clear H1
      by_cases c19 : (x7_1.length : Int) = 0
      ·
       rw [if_pos c19] at H
       have c19b0 : ((x7_1.length : Int) == 0) = true := beq_iff_eq.mpr c19
       have c19b1 : ((x7_1.length : Int) != 0) = false := bne_eq_false_iff_eq.mpr c19
       clear c19
       by_cases c20 : x7_1.length < 17592186044416
       ·
        rw [if_pos c20] at H
        have LMc20 := Aside0.mk c20
        clear c20
        obtain ⟨y335, hy335⟩ : ∃ y_ : List Int, y_ = (x7_1 ++ [1]) := ⟨_, rfl⟩
        replace H : (some y335) = some r := by first | (rw [hy335]; with_reducible exact H) | (have H2_ := (Option.bind_some _ _).symm.trans H; rw [hy335]; with_reducible exact H2_) | (have H2_ := (Option.bind_some _ _).symm.trans H; with_reducible exact H2_) | with_reducible exact H | (rw [hy335]; exact H) | exact H
        have Ny335 := Aside0.mk hy335
        clear hy335
        obtain rfl := Option.some.inj H
        obtain ⟨Ao21, co21, eo21⟩ := Kd.R_slice HO_7.out
        subst eo21
        go_wp2_with (first | ((with_reducible refine gate_builtin (b := .append) (xs := #[.tmp 43, .tmp 44]) rfl ?_); at_builtin; refine Kd.R_append (Kd.int .i64) (w0 := w) w.heap.size rfl (.tmp 43) (.tmp 44) 22 3 (.int .i64 0) 8 rfl Try.underlying22 info3 rfl (by decide) (by omega) (.slice Ao21 x7_1.length co21) x7_1 1 [.int .i64 1] (fun _ => True) (fun _ => False) rfl rfl ?aP (fun _ hk => hk.elim) ?aF ?aO ?aB ?aS ?aL ?_; (case aP => exact rfl); (case aB => exact (by repeat (first | (with_reducible first | exact HB.out | apply below_alloc | apply pw_below_drewN | apply below_drew1) | exact HB.out))); (case aF => exact (fun _ _ => trivial)); (case aO => exact (by (with_reducible repeat (first | apply Kd.R_alloc | apply Kd.R_drewN | apply Kd.R_drew)); exact HO_7.out)); (case aS => exact (below_size (by repeat (first | (with_reducible first | exact HB.out | apply below_alloc | apply pw_below_drewN | apply below_drew1) | exact HB.out)))); (case aL => have := LMc20.out; omega); intro v336 w22 ho hb hg hat; rw [← Ny335.out] at ho; have n0_ := Aside0.mk (hb); have n1_ := Aside0.mk (ho); clear HB; clear HO_7; have HB := n0_; have HO337 := n1_; clear n0_ n1_; clear ho hb hg hat))
        go_ret
        exact ⟨_, by first | rfl | (simp [errW_none, errW_some] <;> rfl) | (simp [*, errW_none, errW_some] <;> rfl), by (with_reducible repeat (first | apply Kd.R_alloc | apply Kd.R_drewN | apply Kd.R_drew)); exact HO337.out, by repeat (first | (with_reducible first | exact HB.out | apply below_alloc | apply pw_below_drewN | apply below_drew1) | exact HB.out)⟩
       ·
        rw [if_neg c20] at H
        exact absurd H (by simp)
      ·
       rw [if_neg c19] at H
       have c19b0 : ((x7_1.length : Int) == 0) = false := beq_eq_false_iff_ne.mpr c19
       have c19b1 : ((x7_1.length : Int) != 0) = true := bne_iff_ne.mpr c19
       have c19b2 : ¬ (x7_1 = []) := fun h_ => c19 (by rw [h_]; rfl)
       obtain rfl := Option.some.inj H
       obtain ⟨Ao23, co23, eo23⟩ := Kd.R_slice HO_7.out
       subst eo23
       go_wp2
       go_ret
       exact ⟨_, by first | rfl | (simp [errW_none, errW_some] <;> rfl) | (simp [*, errW_none, errW_some] <;> rfl), by (with_reducible repeat (first | apply Kd.R_alloc | apply Kd.R_drewN | apply Kd.R_drew)); exact HO_7.out, by repeat (first | (with_reducible first | exact HB.out | apply below_alloc | apply pw_below_drewN | apply below_drew1) | exact HB.out)⟩
end Go.Proofs.Ytcpojohpmcnnhaa.PA

set_option linter.unusedVariables false
set_option linter.unusedSimpArgs false
namespace Go.Proofs.Ytcpojohpmcnnhaa.K
theorem kraft_scale {m : Nat} {ps : WL} (h : ∀ p, p ∈ ps → p.2 ≤ m) : ∀ k, kraft (m + k) ps = 2 ^ k * kraft m ps
  | 0 => by simp
  | k + 1 => by
    rw [← Nat.add_assoc, kraft_succ (fun p hp => Nat.le_trans (h p hp) (Nat.le_add_right _ _)), kraft_scale h k, Nat.pow_succ, Nat.mul_comm (2 ^ k) 2, Nat.mul_assoc]
theorem opt_full {ws : List Int} {L : Nat} {ps : WL} (hp : ∀ x, x ∈ ws → 1 ≤ x) (h2 : 2 ≤ ws.length) (hf : IsFor ws ps) (hfit : FitsP L ps) (hopt : Opt ws L (costP ps)) : kraft L ps = 2 ^ L := by
  have hl := for_length hf
  obtain ⟨p, rest, hperm, hfp, hpl⟩ := split_max (ps := ps) (by intro e; rw [e] at hl; simp at hl; omega) hfit
  have hlen : rest.length + 1 = ps.length := by rw [← hperm.length_eq]; simp
  have h0 : 0 < p.2 := by
    rcases Nat.eq_zero_or_pos p.2 with h | h
    · exfalso
      have hk := hfp.kr
      have hle := hfp.le
      rw [h] at hk hle
      have : ∀ qs : WL, (∀ q, q ∈ qs → q.2 ≤ 0) → kraft 0 qs = qs.length := by
        intro qs
        induction qs with
        | nil => intro _; rfl
        | cons q qs ih =>
          intro hq
          rw [kraft_cons, ih (fun x hx => hq x (by simp [hx]))]
          simp
          omega
      rw [this _ hle, List.length_cons, Nat.pow_zero] at hk
      omega
    · exact h
  have hk : kraft p.2 (p :: rest) = 2 ^ p.2 := by
    rcases Nat.lt_or_ge (kraft p.2 (p :: rest)) (2 ^ p.2) with h | h
    · exfalso
      have h3 := shorten hfp h0 h
      have h4 : IsFor ws ((p.1, p.2 - 1) :: rest) := for_head (for_perm hperm.symm hf) _
      have h5 := hopt.least _ h4 (fits_up h3 hpl)
      rw [← costP_perm hperm, costP_cons, costP_cons] at h5
      have h6 : 1 ≤ p.1 := hp _ (hf.subset (List.mem_map.2 ⟨p, hperm.subset (by simp), rfl⟩))
      have h7 : p.1 * ((p.2 : Nat) : Int) = p.1 * (((p.2 - 1 : Nat)) : Int) + p.1 := by
        conv => lhs; rw [show p.2 = (p.2 - 1) + 1 by omega]
        push_cast
        rw [Int.mul_add, Int.mul_one]
      simp only at h5
      omega
    · exact Nat.le_antisymm hfp.kr h
  rw [← kraft_perm hperm]
  have := kraft_scale (m := p.2) (ps := p :: rest) hfp.le (L - p.2)
  rw [show p.2 + (L - p.2) = L by omega, hk, ← Nat.pow_add, show L - p.2 + p.2 = L by omega] at this
  exact this
theorem two_of {ws : List Int} {l : Nat → Nat} {i k : Nat} (hi : i < ws.length) (hk : k < ws.length) (hne : i ≠ k) : ∃ rest, (pairsOf ws l).Perm ((ws.getD i 0, l i) :: (ws.getD k 0, l k) :: rest) := by
  have h1 : (List.range ws.length).Perm (i :: (List.range ws.length).erase i) := List.perm_cons_erase (List.mem_range.2 hi)
  have h2 : k ∈ (List.range ws.length).erase i := (List.mem_erase_of_ne (Ne.symm hne)).2 (List.mem_range.2 hk)
  have h3 := List.perm_cons_erase h2
  have h4 := (h1.trans (h3.cons i)).map (fun s => (ws.getD s 0, l s))
  exact ⟨_, h4⟩
theorem opt_order {ws : List Int} {L : Nat} {l : Nat → Nat} (hfit : Fits ws.length L l) (hopt : Opt ws L (costN ws l)) {i k : Nat} (hi : i < ws.length) (hk : k < ws.length) (hw : ws.getD k 0 < ws.getD i 0) : l i ≤ l k := by
  rcases Nat.lt_or_ge (l k) (l i) with h | h
  · exfalso
    have hne : i ≠ k := by rintro rfl; omega
    obtain ⟨rest, hperm⟩ := two_of (ws := ws) (l := l) hi hk hne
    have hf : IsFor ws (pairsOf ws l) := by unfold IsFor; rw [pairs_for]
    have hf2 : IsFor ws ((ws.getD i 0, l k) :: (ws.getD k 0, l i) :: rest) := by
      have := for_perm hperm hf
      exact this
    have hfp := fits_perm hperm (pairs_fits.2 hfit)
    have hfp2 : FitsP L ((ws.getD i 0, l k) :: (ws.getD k 0, l i) :: rest) := by
      refine ⟨fun p hp => ?_, ?_⟩
      · rcases List.mem_cons.1 hp with rfl | hp
        · exact hfp.le (ws.getD k 0, l k) (by simp)
        · rcases List.mem_cons.1 hp with rfl | hp
          · exact hfp.le (ws.getD i 0, l i) (by simp)
          · exact hfp.le p (by simp [hp])
      · have := hfp.kr
        rw [kraft_cons, kraft_cons] at this ⊢
        simp only at this ⊢
        omega
    have h1 := hopt.least _ hf2 hfp2
    rw [← pairs_cost, costP_perm hperm, costP_cons, costP_cons, costP_cons, costP_cons] at h1
    simp only at h1
    obtain ⟨d, hd⟩ : ∃ d, l i = l k + d := ⟨l i - l k, by omega⟩
    have hd0 : 0 < d := by omega
    rw [hd] at h1
    push_cast at h1
    rw [Int.mul_add, Int.mul_add] at h1
    have h2 : ws.getD k 0 * (d : Int) < ws.getD i 0 * (d : Int) := Int.mul_lt_mul_of_pos_right hw (by omega)
    omega
  · exact h
theorem bring_min {D : Nat} {w0 x : Int} {r : WL} (hD : ∀ u, u ∈ r → u.2 ≤ D) (hw : ∀ u, u ∈ (x, D) :: r → w0 ≤ u.1) (hm : w0 ∈ ((x, D) :: r).map (·.1)) :
    ∃ r' : WL, (((w0, D) :: r').map (·.1)).Perm (((x, D) :: r).map (·.1)) ∧ (∀ L, kraft L r' = kraft L r) ∧ (∀ u, u ∈ r' → u.2 ≤ D) ∧ costP ((w0, D) :: r') ≤ costP ((x, D) :: r) := by
  by_cases h : x = w0
  · subst h; exact ⟨r, .refl _, fun _ => rfl, hD, Int.le_refl _⟩
  · obtain ⟨u, hu, hue⟩ := List.mem_map.1 hm
    have hu' : u ∈ r := by
      rcases List.mem_cons.1 hu with rfl | hu
      · exact absurd hue h
      · exact hu
    obtain ⟨A, B, rfl⟩ := List.append_of_mem hu'
    obtain ⟨y, d⟩ := u
    obtain rfl : y = w0 := hue
    have hd := hD (y, d) (by simp)
    have hx := hw (x, D) (by simp)
    simp only at hd hx
    have pk : ∀ (z : Int), (A ++ (z, d) :: B).Perm ((z, d) :: (A ++ B)) := fun z => List.perm_middle
    refine ⟨A ++ (x, d) :: B, ?_, fun L => ?_, fun u hu => ?_, ?_⟩
    · have e1 : (((y, D) :: (A ++ (x, d) :: B)).map (·.1)).Perm (((y, D) :: (x, d) :: (A ++ B)).map (·.1)) := ((pk x).cons _).map _
      have e2 : (((x, D) :: (A ++ (y, d) :: B)).map (·.1)).Perm (((x, D) :: (y, d) :: (A ++ B)).map (·.1)) := ((pk y).cons _).map _
      refine e1.trans (List.Perm.trans ?_ e2.symm)
      exact List.Perm.swap _ _ _
    · rw [kraft_perm (pk x), kraft_perm (pk y), kraft_cons, kraft_cons]
    · rcases List.mem_append.1 hu with hu | hu
      · exact hD u (by simp [hu])
      · rcases List.mem_cons.1 hu with rfl | hu
        · exact hd
        · exact hD u (by simp [hu])
    · rw [costP_cons, costP_cons, costP_perm (pk x), costP_perm (pk y), costP_cons, costP_cons]
      simp only
      obtain ⟨k, hk⟩ : ∃ k, D = d + k := ⟨D - d, by omega⟩
      rw [hk]
      push_cast
      rw [Int.mul_add, Int.mul_add]
      have : y * (k : Int) ≤ x * (k : Int) := Int.mul_le_mul_of_nonneg_right hx (by omega)
      omega
theorem kraft_even {D : Nat} {r : WL} (h : ∀ u, u ∈ r → u.2 < D) : kraft D r % 2 = 0 := by
  induction r with
  | nil => rfl
  | cons u r ih =>
    have h1 := ih (fun v hv => h v (by simp [hv]))
    have h2 := h u (by simp)
    rw [kraft_cons, show D - u.2 = (D - u.2 - 1) + 1 by omega, Nat.pow_succ]
    omega
theorem two_max (ws : List Int) (hw : NN ws) (h2 : 2 ≤ ws.length) : ∀ (t L : Nat) (ps : WL), total ps = t → IsFor ws ps → FitsP L ps → ∃ D p q r, D ≤ L ∧ 1 ≤ D ∧ IsFor ws ((p, D) :: (q, D) :: r) ∧ FitsP D ((p, D) :: (q, D) :: r) ∧ costP ((p, D) :: (q, D) :: r) ≤ costP ps := by
  intro t
  induction t using Nat.strongRecOn with
  | _ t ih =>
    intro L ps ht hfor hfit
    have hl := for_length hfor
    obtain ⟨p, rest, hperm, hfp, hpl⟩ := split_max (ps := ps) (by intro e; rw [e] at hl; simp at hl; omega) hfit
    have hlen : rest.length + 1 = ps.length := by rw [← hperm.length_eq]; simp
    have hfor' := for_perm hperm.symm hfor
    by_cases hq : ∃ q, q ∈ rest ∧ q.2 = p.2
    · obtain ⟨q, hq, hqe⟩ := hq
      obtain ⟨A, B, rfl⟩ := List.append_of_mem hq
      obtain ⟨p1, D⟩ := p
      obtain ⟨q1, D'⟩ := q
      simp only at hqe hfp hpl
      subst hqe
      have hp2 : ((p1, D') :: (A ++ (q1, D') :: B)).Perm ((p1, D') :: (q1, D') :: (A ++ B)) := List.perm_middle.cons _
      refine ⟨D', p1, q1, A ++ B, hpl, ?_, for_perm hp2 hfor', fits_perm hp2 hfp, ?_⟩
      · rcases Nat.eq_zero_or_pos D' with h | h
        · exfalso
          have := hfp.kr
          rw [kraft_perm hp2, kraft_cons, kraft_cons, h] at this
          simp at this
          omega
        · exact h
      · rw [← costP_perm hp2, costP_perm hperm]; exact Int.le_refl _
    · have hlt : ∀ u, u ∈ rest → u.2 < p.2 := fun u hu => by
        have h1 := hfp.le u (by simp [hu])
        rcases Nat.lt_or_ge u.2 p.2 with h3 | h3
        · exact h3
        · exact absurd ⟨u, hu, by omega⟩ hq
      have h0 : 0 < p.2 := by
        cases rest with
        | nil => simp at hlen; omega
        | cons u rest => have := hlt u (by simp); omega
      have hlt2 : kraft p.2 (p :: rest) < 2 ^ p.2 := by
        have h1 := kraft_even hlt
        have h3 := hfp.kr
        rw [kraft_cons, Nat.sub_self] at h3 ⊢
        have h4 : 2 ^ p.2 % 2 = 0 := by rw [show p.2 = (p.2 - 1) + 1 by omega, Nat.pow_succ]; omega
        omega
      have h3 := shorten hfp h0 hlt2
      have h4 : IsFor ws ((p.1, p.2 - 1) :: rest) := for_head hfor' _
      have htot : total ((p.1, p.2 - 1) :: rest) < t := by
        rw [← ht, ← total_perm hperm]
        simp [total]
        omega
      obtain ⟨D, a, b, r, c1, c2, c3, c4, c5⟩ := ih _ htot p.2 _ rfl h4 h3
      refine ⟨D, a, b, r, by omega, c2, c3, c4, Int.le_trans c5 ?_⟩
      rw [← costP_perm hperm]
      exact short_cost (nn_of hw hfor (hperm.subset (by simp))) h0
theorem opt_merge {wa wb : Int} {rest : List Int} {M : Nat} {c m : Int} (ha : 0 ≤ wa) (hab : wa ≤ wb) (hb : ∀ x, x ∈ rest → wb ≤ x) (hM : rest.length + 1 ≤ M) (h : Opt (wa :: wb :: rest) M c) (k : Opt ((wa + wb) :: rest) M m) : c = m + (wa + wb) := by
  have hnn : NN (wa :: wb :: rest) := fun x hx => by
    rcases List.mem_cons.1 hx with rfl | hx
    · exact ha
    · rcases List.mem_cons.1 hx with rfl | hx
      · omega
      · have := hb x hx; omega
  have hnn2 : NN ((wa + wb) :: rest) := fun x hx => by
    rcases List.mem_cons.1 hx with rfl | hx
    · omega
    · have := hb x hx; omega
  have le1 : c ≤ m + (wa + wb) := by
    obtain ⟨ps, p1, p2, rfl⟩ := k.some
    have hpl := for_length p1
    obtain ⟨qs, q1, q2, q3⟩ := short_all _ hnn2 _ M ps rfl p1 p2 (by intro e; rw [e] at hpl; simp at hpl)
    have hql := for_length q1
    obtain ⟨q', r1, r2⟩ := reorder _ q1
    cases q' with
    | nil => simp at r2
    | cons z r =>
      obtain ⟨z1, x⟩ := z
      simp only [List.map_cons, List.cons.injEq] at r2
      obtain ⟨rfl, rfl⟩ := r2
      have f2 := fits_perm r1.symm q2
      simp only [List.length_cons] at hpl
      rw [hpl] at f2
      simp only [List.length_map] at f2 hM
      have f3 : FitsP (r.length + 1) ((wa + wb, x) :: r) := fits_up f2 (by omega)
      have hx : x ≤ r.length := f2.le (wa + wb, x) (by simp)
      have f4 : FitsP (r.length + 1) ((wa, x + 1) :: (wb, x + 1) :: r) := by
        refine ⟨fun p hp => ?_, ?_⟩
        · rcases List.mem_cons.1 hp with rfl | hp
          · show x + 1 ≤ _; omega
          · rcases List.mem_cons.1 hp with rfl | hp
            · show x + 1 ≤ _; omega
            · exact f3.le p (by simp [hp])
        · have := f3.kr
          rw [kraft_cons] at this
          rw [kraft_cons, kraft_cons]
          simp only at this ⊢
          rw [show r.length + 1 - x = (r.length + 1 - (x + 1)) + 1 by omega, Nat.pow_succ] at this
          omega
      have h5 := h.least _ (by unfold IsFor; exact List.Perm.refl _) (fits_up f4 hM)
      rw [costP_cons, costP_cons] at h5
      rw [← costP_perm r1, costP_cons] at q3
      simp only at h5 q3
      push_cast at h5
      rw [Int.mul_add, Int.mul_add, Int.mul_one, Int.mul_one] at h5
      rw [Int.add_mul] at q3
      omega
  have le2 : m + (wa + wb) ≤ c := by
    obtain ⟨ps, p1, p2, rfl⟩ := h.some
    obtain ⟨D, p, q, r, d1, d2, d3, d4, d5⟩ := two_max _ hnn (by simp) _ M ps rfl p1 p2
    have hmin : ∀ u, u ∈ (p, D) :: (q, D) :: r → wa ≤ u.1 := fun u hu => by
      have : u.1 ∈ wa :: wb :: rest := d3.subset (List.mem_map.2 ⟨u, hu, rfl⟩)
      rcases List.mem_cons.1 this with h1 | h1
      · omega
      · rcases List.mem_cons.1 h1 with h1 | h1
        · omega
        · have := hb _ h1; omega
    obtain ⟨r1, a1, a2, a3, a4⟩ := bring_min (D := D) (w0 := wa) (x := p) (r := (q, D) :: r) (fun u hu => d4.le u (by simp [List.mem_cons.1 hu])) hmin (d3.symm.subset (by simp))
    have hr1 : (r1.map (·.1)).Perm (wb :: rest) := (List.perm_cons wa).1 (a1.trans d3)
    have hk1 := a2 D
    rw [kraft_cons] at hk1
    have hl1 : r1 ≠ [] := by intro e; rw [e] at hr1; have := hr1.length_eq; simp at this
    have hdeep : ∃ u, u ∈ r1 ∧ u.2 = D := by
      by_cases hex : ∃ u, u ∈ r1 ∧ u.2 = D
      · exact hex
      · exfalso
        have hlt : ∀ u, u ∈ r1 → u.2 < D := fun u hu => by
          have h1 := a3 u hu
          rcases Nat.lt_or_ge u.2 D with h3 | h3
          · exact h3
          · exact absurd ⟨u, hu, by omega⟩ hex
        have h4 := kraft_even hlt
        rw [hk1] at h4
        have h5 := a2 (D - 1)
        rw [kraft_cons] at h5
        have h6 : kraft D r1 = 2 * kraft (D - 1) r1 := by
          have := kraft_succ (L := D - 1) (ps := r1) (fun u hu => by have := hlt u hu; omega)
          rwa [show D - 1 + 1 = D by omega] at this
        have h7 : ∀ (l : WL), (∀ u, u ∈ l → u.2 ≤ D) → kraft D l + (l.filter (fun u => u.2 == D)).length = 2 * kraft (D - 1) l := by
          intro l
          induction l with
          | nil => intro _; rfl
          | cons u l ihl =>
            intro hu
            have h8 := ihl (fun v hv => hu v (by simp [hv]))
            have h9 := hu u (by simp)
            rw [kraft_cons, kraft_cons]
            by_cases he : u.2 = D
            · have : (u.2 == D) = true := by simp [he]
              simp only [List.filter_cons, this, if_true, List.length_cons]
              rw [he, Nat.sub_self, show D - 1 - D = 0 by omega]
              omega
            · have : (u.2 == D) = false := by simp [he]
              simp only [List.filter_cons, this, Bool.false_eq_true, if_false]
              rw [show D - u.2 = (D - 1 - u.2) + 1 by omega, Nat.pow_succ]
              omega
        have h10 := h7 ((q, D) :: r) (fun u hu => d4.le u (by simp [List.mem_cons.1 hu]))
        rw [kraft_cons, kraft_cons] at h10
        have : ((D == D) : Bool) = true := by simp
        simp only [List.filter_cons, this, if_true, List.length_cons] at h10
        simp only at hk1 h5
        omega
    obtain ⟨u, hu, hud⟩ := hdeep
    obtain ⟨A, B, rfl⟩ := List.append_of_mem hu
    obtain ⟨y, d⟩ := u
    simp only at hud
    subst hud
    have pm : (A ++ (y, d) :: B).Perm ((y, d) :: (A ++ B)) := List.perm_middle
    have hr2 : (((y, d) :: (A ++ B)).map (·.1)).Perm (wb :: rest) := (pm.symm.map _).trans hr1
    have hmin2 : ∀ v, v ∈ (y, d) :: (A ++ B) → wb ≤ v.1 := fun v hv => by
      have : v.1 ∈ wb :: rest := hr2.subset (List.mem_map.2 ⟨v, hv, rfl⟩)
      rcases List.mem_cons.1 this with h1 | h1
      · omega
      · exact hb _ h1
    obtain ⟨r2, b1, b2, b3, b4⟩ := bring_min (D := d) (w0 := wb) (x := y) (r := A ++ B) (fun v hv => a3 v (pm.symm.subset (by simp [hv]))) hmin2 (hr2.symm.subset (by simp))
    have hr3 : (r2.map (·.1)).Perm rest := (List.perm_cons wb).1 (b1.trans hr2)
    have hk3 := d4.kr
    rw [kraft_cons, kraft_cons] at hk3
    simp only at hk3 hk1
    rw [kraft_perm pm, kraft_cons, ← b2 d] at hk1
    simp only at hk1
    rw [Nat.sub_self] at hk1 hk3
    have f5 : FitsP d ((wa + wb, d - 1) :: r2) := by
      refine ⟨fun p hp => ?_, ?_⟩
      · rcases List.mem_cons.1 hp with rfl | hp
        · show d - 1 ≤ d; omega
        · exact b3 p hp
      · rw [kraft_cons]
        simp only
        rw [show d - (d - 1) = 1 by omega]
        omega
    have h6 := k.least ((wa + wb, d - 1) :: r2) (by unfold IsFor; exact hr3.cons _) (fits_up f5 d1)
    rw [costP_cons] at h6 b4 a4
    rw [costP_perm pm] at a4
    rw [costP_cons] at d5
    rw [costP_cons] at b4
    simp only at h6 a4 b4 d5
    have e1 : (wa + wb) * ((d - 1 : Nat) : Int) = (wa + wb) * (d : Int) - (wa + wb) := by
      rw [show ((d - 1 : Nat) : Int) = (d : Int) - 1 by omega, Int.mul_sub, Int.mul_one]
    rw [e1, Int.add_mul] at h6
    have e2 : costP ((p, d) :: (q, d) :: r) = p * (d : Int) + costP ((q, d) :: r) := costP_cons _ _
    have e3 : costP ((y, d) :: (A ++ B)) = y * (d : Int) + costP (A ++ B) := costP_cons _ _
    rw [e3] at a4
    rw [e2] at a4
    omega
  omega
end Go.Proofs.Ytcpojohpmcnnhaa.K

set_option linter.unusedVariables false
set_option linter.unusedSimpArgs false
namespace Go.Proofs.Ytcpojohpmcnnhaa.L
open Go.RowKit Go.Proofs.YtcpojohpmcnnhaaW.PrintWords Go.Proofs.YtcpojohpmcnnhaaW.PrintLast Go.Proofs.YtcpojohpmcnnhaaW.PrintMore
open Go.Proofs.Ytcpojohpmcnnhaa.PA Go.Proofs.Ytcpojohpmcnnhaa.A Go.Proofs.Ytcpojohpmcnnhaa.K
def modI (x n : Int) : Int := Int.tmod (IntKind.u64.wrap x) n
theorem u64_nn (x : Int) : 0 ≤ IntKind.u64.wrap x := by
  have e : IntKind.u64.wrap x = x % 18446744073709551616 := by simp [IntKind.wrap, IntKind.bits, IntKind.signed]
  rw [e]; omega
theorem u64_small {x : Int} (h : 0 ≤ x) (h2 : x ≤ 1000000000000) : IntKind.u64.wrap x = x := by
  have e : IntKind.u64.wrap x = x % 18446744073709551616 := by simp [IntKind.wrap, IntKind.bits, IntKind.signed]
  rw [e]; omega
theorem modI_bd (x : Int) {n : Int} (h : 1 ≤ n) : 0 ≤ modI x n ∧ modI x n < n := by
  unfold modI
  have h0 := u64_nn x
  rw [Int.tmod_eq_emod_of_nonneg h0]
  exact ⟨Int.emod_nonneg _ (by omega), Int.emod_lt_of_pos _ (by omega)⟩
theorem mod_all (x : Int) {n : Int} (h : 1 ≤ n) (h2 : n ≤ 1000000000000) : turndownlaw06_mod.f x n = some (modI x n) := by
  unfold turndownlaw06_mod.f
  rw [u64_small (by omega) h2, if_neg (by omega)]
  have := modI_bd x h
  unfold modI at this ⊢
  congr 1
  unfold wrap64
  omega
theorem tame_ev (l : List Int) {most : Nat} {low : Int} (hl : l.length ≤ 17592186044416) (hm : 1 ≤ most) (hm2 : most ≤ 1000) (h0 : 0 ≤ low) (h1 : low ≤ 1) : ∃ w, Ev (fun k => turndownlaw06_tame.f k l (most : Int) low) w ∧ 1 ≤ w.length ∧ w.length ≤ most ∧ ∀ x, x ∈ w → low ≤ x ∧ x ≤ 1073741824 := by
  have fin : ∀ (out : List Int) (q : Nat), out.length ≤ most → (∀ x, x ∈ out → low ≤ x ∧ x ≤ 1073741824) → ∃ w, Ev (fun k => turndownlaw06_tame.j1 k l (most : Int) low out (q : Int) false) w ∧ 1 ≤ w.length ∧ w.length ≤ most ∧ ∀ x, x ∈ w → low ≤ x ∧ x ≤ 1073741824 := by
    intro out q ho hx
    by_cases h : (out.length : Int) = 0
    · refine ⟨out ++ [1], Ev.step (fun k => ?_) (Ev.now _), by simp, by simp; omega, fun x hx' => ?_⟩
      · rw [turndownlaw06_tame.j1, if_neg (by simp), if_pos h, if_pos (by omega)]
      · rcases List.mem_append.1 hx' with hx' | hx'
        · exact hx x hx'
        · rw [List.mem_singleton.1 hx']; omega
    · refine ⟨out, Ev.step (fun k => ?_) (Ev.now _), by omega, ho, hx⟩
      rw [turndownlaw06_tame.j1, if_neg (by simp), if_neg h]
  have key : ∀ e q (out : List Int), q + e = min l.length most → out.length = q → (∀ x, x ∈ out → low ≤ x ∧ x ≤ 1073741824) → ∃ w, Ev (fun k => turndownlaw06_tame.l0 k l (most : Int) low out (q : Int)) w ∧ 1 ≤ w.length ∧ w.length ≤ most ∧ ∀ x, x ∈ w → low ≤ x ∧ x ≤ 1073741824 := by
    intro e
    induction e with
    | zero =>
      intro q out hq ho hx
      obtain ⟨w, hw, h3⟩ := fin out q (by omega) hx
      refine ⟨w, Ev.step (fun k => ?_) hw, h3⟩
      rw [turndownlaw06_tame.l0]
      by_cases h : (q : Int) < (l.length : Int)
      · rw [if_pos h, decide_eq_false (show ¬ (q : Int) < (most : Int) by omega)]
      · rw [if_neg h]
    | succ e ih =>
      intro q out hq ho hx
      have hql : q < l.length := by omega
      have hqm : q < most := by omega
      obtain ⟨y, hy, hstep⟩ : ∃ y, (low ≤ y ∧ y ≤ 1073741824) ∧ ∀ k, turndownlaw06_tame.j1 (k + 1) l (most : Int) low out (q : Int) true = turndownlaw06_tame.l0 k l (most : Int) low (out ++ [y]) ((q + 1 : Nat) : Int) := by
        have hm3 := modI_bd (l.getD q 0) (n := 1000) (by omega)
        have hm4 : wrap64 (low + modI (l.getD q 0) 1000) = low + modI (l.getD q 0) 1000 := by unfold wrap64; omega
        by_cases c1 : l.getD q 0 < low
        · refine ⟨low + modI (l.getD q 0) 1000, by omega, fun k => ?_⟩
          rw [turndownlaw06_tame.j1, if_pos rfl, if_pos (by omega), if_pos (by omega), rd_nat, if_pos c1, mod_all _ (by omega) (by omega)]
          simp only [Option.bind_some]
          rw [if_pos (by omega), hm4, w1 (by omega)]
        · by_cases c2 : l.getD q 0 > 1073741824
          · refine ⟨low + modI (l.getD q 0) 1000, by omega, fun k => ?_⟩
            rw [turndownlaw06_tame.j1, if_pos rfl, if_pos (by omega), if_pos (by omega), rd_nat, if_neg c1, if_pos c2, mod_all _ (by omega) (by omega)]
            simp only [Option.bind_some]
            rw [if_pos (by omega), hm4, w1 (by omega)]
          · refine ⟨l.getD q 0, by omega, fun k => ?_⟩
            rw [turndownlaw06_tame.j1, if_pos rfl, if_pos (by omega), if_pos (by omega), rd_nat, if_neg c1, if_neg c2, if_pos (by omega), w1 (by omega)]
      obtain ⟨w, hw, h3⟩ := ih (q + 1) (out ++ [y]) (by omega) (by simp [ho]) (fun x hx' => by
        rcases List.mem_append.1 hx' with hx' | hx'
        · exact hx x hx'
        · rw [List.mem_singleton.1 hx']; exact hy)
      refine ⟨w, Ev.step (fun k => ?_) (Ev.step (g := fun k => turndownlaw06_tame.j1 k l (most : Int) low out (q : Int) true) hstep hw), h3⟩
      rw [turndownlaw06_tame.l0, if_pos (by omega), decide_eq_true (show (q : Int) < (most : Int) by omega)]
  exact key (min l.length most) 0 [] (by omega) rfl (fun x hx => by cases hx)
theorem getD_mem {l : List Int} {s : Nat} (hs : s < l.length) : l.getD s 0 ∈ l := by
  rw [List.getD_eq_getElem?_getD, List.getElem?_eq_getElem hs]
  exact List.getElem_mem hs
end Go.Proofs.Ytcpojohpmcnnhaa.L

namespace Go.Proofs.Ytcpojohpmcnnhaa.PA
open Go.RowKit Go.Proofs.YtcpojohpmcnnhaaW.PrintWords Go.Proofs.YtcpojohpmcnnhaaW.PrintLast Go.Proofs.YtcpojohpmcnnhaaW.PrintMore
attribute [local go_sem] max2_int min2_int max_two min_two max_three min_three max_four min_four
set_option linter.unusedVariables false
set_option linter.unusedSimpArgs false
mutual
def turndownlaw06_CodeLimits.l0 : Nat → List Int → List Int → Int → Int → Option (Bool)
 | 0, _, _, _, _ => none
 | k + 1, x5, x6, x8, x9 => if x9 ≥ 0 then (if 0 ≤ x9 then (if x9 < (x5.length : Int) then ((turndownlaw06_mod.f (rd x5 x9) 1000001).bind fun t371 => ((some (x5.set (x9 : Int).toNat t371 : List Int)).bind fun y372 => (if x6.length < 17592186044416 then (turndownlaw06_CodeLimits.l0 k y372 (x6 ++ [rd y372 x9]) x8 (wrap64 (x9 - 1))) else (none)))) else (none)) else (none)) else (turndownlaw06_CodeLimits.l1 k x5 x6 ([] : List Int) x8 0)
def turndownlaw06_CodeLimits.l1 : Nat → List Int → List Int → List Int → Int → Int → Option (Bool)
 | 0, _, _, _, _, _ => none
 | k + 1, x5, x6, x7, x8, x10 => if x10 < (x5.length : Int) then (if 0 ≤ x10 then (if x7.length < 17592186044416 then (turndownlaw06_CodeLimits.l1 k x5 x6 (x7 ++ [wrap64 (x8 * (rd x5 x10))]) x8 (wrap64 (x10 + 1))) else (none)) else (none)) else (turndownlaw06_CodeLimits.l2 k x5 x6 x7 x8 (-1) 0)
def turndownlaw06_CodeLimits.l2 : Nat → List Int → List Int → List Int → Int → Int → Int → Option (Bool)
 | 0, _, _, _, _, _, _ => none
 | k + 1, x5, x6, x7, x8, x11, x12 => if x12 ≤ 32 then ((code_Best.f k x5 x12).bind fun bt382 => ((code_Best.f k x6 x12).bind fun bt387 => ((code_Best.f k x7 x12).bind fun bt392 => (if bt382.2.2 = bt387.2.2 then (if bt382.2.2 = bt392.2.2 then (if x12 > 5 then (turndownlaw06_CodeLimits.j3 k x5 x6 x7 x8 x11 x12 bt382.2.1 bt382.2.2 bt387.2.1 bt392.2.1 ((bt382.2.2 == 0) != true)) else (if 0 ≤ x12 then (turndownlaw06_CodeLimits.j3 k x5 x6 x7 x8 x11 x12 bt382.2.1 bt382.2.2 bt387.2.1 bt392.2.1 ((bt382.2.2 == 0) != (decide ((x5.length : Int) ≤ (shl .i64 1 x12))))) else (none))) else (turndownlaw06_CodeLimits.j3 k x5 x6 x7 x8 x11 x12 bt382.2.1 bt382.2.2 bt387.2.1 bt392.2.1 true)) else (turndownlaw06_CodeLimits.j3 k x5 x6 x7 x8 x11 x12 bt382.2.1 bt382.2.2 bt387.2.1 bt392.2.1 true))))) else ((turndownlaw06_awake.f k).bind fun t381 => (some t381))
def turndownlaw06_CodeLimits.j3 : Nat → List Int → List Int → List Int → Int → Int → Int → Int → Int → Int → Int → Bool → Option (Bool)
 | 0, _, _, _, _, _, _, _, _, _, _, _ => none
 | k + 1, x5, x6, x7, x8, x11, x12, x14, x15, x17, x20, x110 => if x110 = true then (some false) else (if x15 = 0 then (if x17 = x14 then (if x20 = (wrap64 (x8 * x14)) then (if x11 ≥ 0 then (if x14 > x11 then (some false) else (if x12 ≥ (x5.length : Int) then (if x14 = x11 then (turndownlaw06_CodeLimits.l2 k x5 x6 x7 x8 x14 (wrap64 (x12 + 1))) else (some false)) else (turndownlaw06_CodeLimits.l2 k x5 x6 x7 x8 x14 (wrap64 (x12 + 1))))) else (turndownlaw06_CodeLimits.l2 k x5 x6 x7 x8 x14 (wrap64 (x12 + 1)))) else (some false)) else (some false)) else (turndownlaw06_CodeLimits.l2 k x5 x6 x7 x8 x11 (wrap64 (x12 + 1))))
end
def turndownlaw06_CodeLimits.f (k : Nat) (l0 : List Int) (a1 : Int) : Option (Bool) := (turndownlaw06_tame.f k l0 20 0).bind fun t366 => ((turndownlaw06_mod.f a1 9).bind fun t369 => (turndownlaw06_CodeLimits.l0 k t366 ([] : List Int) (wrap64 (1 + t369)) (wrap64 ((t366.length : Int) - 1))))
set_option maxHeartbeats 8000000 in
set_option maxRecDepth 100000 in
theorem turndownlaw06_CodeLimits.calls (k : Nat) (A0 : Option Addr) (c0 : Nat) (l0 : List Int) (a1 : Int) (r : Bool) (w : World) (hr0 : Kd.C (Kd.int .i64) w A0 l0.length l0) (hc0 : l0.length ≤ c0) (h : turndownlaw06_CodeLimits.f k l0 a1 = some r) :
  Calls Try.prog 9 #[.slice A0 l0.length c0, .int .i64 a1] w fun e w' => e = .returned (.bool r) ∧ Below w.heap.size w w' := by
 have HR0 := Aside0.mk hr0
 have HC0 := Aside0.mk hc0
 clear hr0 hc0
 have HB := Aside0.mk (Below.refl w.heap.size w)
 have H : ((turndownlaw06_tame.f k l0 20 0).bind fun t366 => ((turndownlaw06_mod.f a1 9).bind fun t369 => (turndownlaw06_CodeLimits.l0 k t366 ([] : List Int) (wrap64 (1 + t369)) (wrap64 ((t366.length : Int) - 1))))) = some r := h
 clear h
 replace H := Option.bind_eq_some_iff.mp H
 obtain ⟨t366, A30, H⟩ := H
 replace H : ((turndownlaw06_mod.f a1 9).bind fun t369 => (turndownlaw06_CodeLimits.l0 k t366 ([] : List Int) (wrap64 (1 + t369)) (wrap64 ((t366.length : Int) - 1)))) = some r := H
 have A3 := Aside0.mk A30
 clear A30
 replace H := Option.bind_eq_some_iff.mp H
 obtain ⟨t369, A40, H⟩ := H
 replace H : (turndownlaw06_CodeLimits.l0 k t366 ([] : List Int) (wrap64 (1 + t369)) (wrap64 ((t366.length : Int) - 1))) = some r := H
 have A4 := Aside0.mk A40
 clear A40
 have H' := Aside0.mk H
 clear H
 go_enter Try.func9, Try.ntmps9
 go_wp2_with (first | ((with_reducible refine gate_callee (f := 38) rfl ?_); refine goesL_ (some 23) rfl rfl Try.func38 (by kernel_rfl) rfl #[.slice A0 l0.length c0, .int .i64 20, .int .i64 0] rfl (by (try simp only [List.map_toArray, List.map_cons, List.map_nil]); first | done | rfl | (simp only [List.length_drop, List.length_take]; rfl)) ?_; (with_reducible refine (turndownlaw06_tame.calls k _ _ l0 20 0 t366 _ ?side1 ?side2 A3.out).mono ?_); (case side1 => repeat (first | exact HR0.out | (with_reducible refine Kd.C_alloc ?_ _) | (with_reducible refine Kd.C_drewN ?_ _) | (with_reducible refine Kd.C_drew ?_))); (case side2 => exact HC0.out); rintro e w5 ⟨v367, rfl, ho0, hb⟩; refine ⟨_, rfl, ?_⟩; have n0_ := Aside0.mk (Kd.R_lower ho0 (below_size (by repeat (first | (with_reducible first | exact HB.out | apply below_alloc | apply pw_below_drewN | apply below_drew1) | exact HB.out)))); have n1_ := Aside0.mk (below_step (by repeat (first | (with_reducible first | exact HB.out | apply below_alloc | apply pw_below_drewN | apply below_drew1) | exact HB.out)) hb); clear HB; have HO368 := n0_; have HB := n1_; clear n0_ n1_; (try clear hb); (try clear hb2); (try clear hk); (try clear hi); (try clear ho0)) | ((with_reducible refine gate_callee (f := 39) rfl ?_); refine goesL_ (some 25) rfl rfl Try.func39 (by kernel_rfl) rfl #[.int .i64 a1, .int .i64 9] rfl (by (try simp only [List.map_toArray, List.map_cons, List.map_nil]); first | done | rfl | (simp only [List.length_drop, List.length_take]; rfl)) ?_; (with_reducible refine (turndownlaw06_mod.calls a1 9 t369 _ A4.out).mono ?_); rintro e w' ⟨rfl, ⟨nd, rfl⟩⟩; refine ⟨_, rfl, ?_⟩; obtain ⟨Ao6, co6, eo6⟩ := Kd.R_slice HO368.out; subst eo6))
 go_loopg [6, 9] k (fun kq v6 v9 w' => ∃ (x5_1 : List Int) (x6_1 : List Int) (x9_1 : Int), v9 = .int .i64 x9_1 ∧ Aside0 (turndownlaw06_CodeLimits.l0 kq x5_1 x6_1 (wrap64 (1 + t369)) x9_1 = some r) ∧ Aside0 (kq ≤ k) ∧ Aside0 (Kd.R (Kd.int .i64) 3 w' w.heap.size (fun k_ => some k_ ≠ (v6 : Value).ownBlock) (.slice Ao6 t366.length co6) x5_1) ∧ Aside0 (Kd.R (Kd.int .i64) 3 w' w.heap.size (fun k_ => some k_ ≠ ((.slice Ao6 t366.length co6) : Value).ownBlock) v6 x6_1) ∧ Aside0 (Below w.heap.size w w'))
 case atStart => exact ⟨(t366), (([] : List Int)), (wrap64 ((t366.length : Int) - 1)), (by first | rfl | (simp; done) | (simp [*]; done)), H', ⟨Nat.le_refl _⟩, ⟨by (with_reducible repeat (first | apply Kd.R_alloc | apply Kd.R_drewN | apply Kd.R_drew)); exact Kd.R_mono HO368.out (fun _ hk => (by simp [Value.ownBlock]))⟩, ⟨by first | exact Kd.R_nil _ _ _ _ _ | exact Kd.N_nil _ _ _ _ _ | exact Kd.V_nil _ _ _ _ _ | exact Kd.Q_nil _ _ _ _ _ | exact Kd.S_nil _ _ _ _ _⟩, ⟨by repeat (first | (with_reducible first | exact HB.out | apply below_alloc | apply pw_below_drewN | apply below_drew1) | exact HB.out)⟩⟩
 case round =>
  clear H'
  try clear p2
  try clear c3
  try clear p6
  obtain ⟨x5_1, x6_1, x9_1, rfl, HA, HK1, HO_5, HO_6, HB⟩ := hrel
  have hl5_1 := (Kd.R_reads' HO_5.out).1
  rw [hl5_1] at HO_5
  (try simp only [hl5_1])
  (try simp only [hl5_1] at HO_6)
  cases gk with
  | zero => exact absurd HA.out (by simp [turndownlaw06_CodeLimits.l0])
  | succ k1 =>
   have H := HA.out
   clear HA
   simp only [turndownlaw06_CodeLimits.l0] at H
   by_cases c7 : x9_1 ≥ 0
   ·
    rw [if_pos c7] at H
    have c7b0 : decide (0 ≤ x9_1) = true := decide_eq_true c7
    clear c7
    by_cases c8 : 0 ≤ x9_1
    ·
     rw [if_pos c8] at H
     have c8b0 : decide (0 ≤ x9_1) = true := decide_eq_true c8
     clear c8
     by_cases c9 : x9_1 < (x5_1.length : Int)
     ·
      rw [if_pos c9] at H
      have c9b0 : decide (x9_1 < (x5_1.length : Int)) = true := decide_eq_true c9
      clear c9
      replace H := Option.bind_eq_some_iff.mp H
      obtain ⟨t371, A100, H⟩ := H
      replace H : ((some (x5_1.set (x9_1 : Int).toNat t371 : List Int)).bind fun y372 => (if x6_1.length < 17592186044416 then (turndownlaw06_CodeLimits.l0 k1 y372 (x6_1 ++ [rd y372 x9_1]) (wrap64 (1 + t369)) (wrap64 (x9_1 - 1))) else (none))) = some r := H
      have A10 := Aside0.mk A100
      clear A100
      obtain ⟨y372, hy372⟩ : ∃ y_ : List Int, y_ = (x5_1.set (x9_1 : Int).toNat t371) := ⟨_, rfl⟩
      replace H : (if x6_1.length < 17592186044416 then (turndownlaw06_CodeLimits.l0 k1 y372 (x6_1 ++ [rd y372 x9_1]) (wrap64 (1 + t369)) (wrap64 (x9_1 - 1))) else (none)) = some r := by first | (rw [hy372]; with_reducible exact H) | (have H2_ := (Option.bind_some _ _).symm.trans H; rw [hy372]; with_reducible exact H2_) | (have H2_ := (Option.bind_some _ _).symm.trans H; with_reducible exact H2_) | with_reducible exact H | (rw [hy372]; exact H) | exact H
      have Ny372 := Aside0.mk hy372
      clear hy372
      by_cases c12 : x6_1.length < 17592186044416
      ·
       rw [if_pos c12] at H
       have LMc12 := Aside0.mk c12
       clear c12
       obtain ⟨y374, hy374⟩ : ∃ y_ : List Int, y_ = (x6_1 ++ [rd y372 x9_1]) := ⟨_, rfl⟩
       replace H : (turndownlaw06_CodeLimits.l0 k1 y372 y374 (wrap64 (1 + t369)) (wrap64 (x9_1 - 1))) = some r := by first | (rw [hy374]; with_reducible exact H) | (have H2_ := (Option.bind_some _ _).symm.trans H; rw [hy374]; with_reducible exact H2_) | (have H2_ := (Option.bind_some _ _).symm.trans H; with_reducible exact H2_) | with_reducible exact H | (rw [hy374]; exact H) | exact H
       have Ny374 := Aside0.mk hy374
       clear hy374
       have H' := Aside0.mk H
       clear H
       have p370 : 0 ≤ (x9_1 : Int) := of_decide_eq_true (by first | (with_reducible assumption) | assumption)
       have q370 : x9_1 < (x5_1.length : Int) := of_decide_eq_true (by first | (with_reducible assumption) | assumption)
       obtain ⟨ad370, e370, hx370_0⟩ := Kd.at_int (Kd.R_reads' HO_5.out).2.2 x9_1 p370 q370
       cases e370
       replace p370 := eq_true p370
       replace q370 := eq_true q370
       go_wp2_with (first | ((with_reducible refine gate_callee (f := 39) rfl ?_); refine goesL_ (some 40) rfl rfl Try.func39 (by kernel_rfl) rfl #[.int .i64 (rd x5_1 x9_1), .int .i64 1000001] rfl (by (try simp only [List.map_toArray, List.map_cons, List.map_nil]); first | done | rfl | (simp only [List.length_drop, List.length_take]; rfl)) ?_; (with_reducible refine (turndownlaw06_mod.calls (rd x5_1 x9_1) 1000001 t371 _ A10.out).mono ?_); rintro e w' ⟨rfl, ⟨nd, rfl⟩⟩; refine ⟨_, rfl, ?_⟩; (try (rw [drewN_self wr]; generalize hq_ : World.drewN wr _ = wr; have n0_ : Aside0 (Kd.R (Kd.int .i64) 3 wr w.heap.size (fun k_ => some k_ ≠ (u6 : Value).ownBlock) (.slice (some ad370) x5_1.length co6) x5_1) := ⟨by rw [← hq_]; exact (by (with_reducible repeat (first | apply Kd.R_alloc | apply Kd.R_drewN | apply Kd.R_drew)); exact HO_5.out)⟩; have n1_ : Aside0 (Kd.R (Kd.int .i64) 3 wr w.heap.size (fun k_ => some k_ ≠ (.slice (some ad370) x5_1.length co6 : Value).ownBlock) u6 x6_1) := ⟨by rw [← hq_]; exact (by (with_reducible repeat (first | apply Kd.R_alloc | apply Kd.R_drewN | apply Kd.R_drew)); exact HO_6.out)⟩; have n2_ : Aside0 (Below w.heap.size w wr) := ⟨by rw [← hq_]; exact (by repeat (first | (with_reducible first | exact HB.out | apply below_alloc | apply pw_below_drewN | apply below_drew1) | exact HB.out))⟩; clear HO_5 HO_6 HB hq_; have HO_5 := n0_; have HO_6 := n1_; have HB := n2_; clear n0_ n1_ n2_)); have p11 : 0 ≤ (x9_1 : Int) := of_decide_eq_true (by first | (with_reducible assumption) | assumption); have q11 : (x9_1 : Int) < ((x5_1.length : Int) : Int) := of_decide_eq_true (by first | (with_reducible assumption) | assumption); obtain ⟨go11, co11, eo11, gb11, gl11, cl11, HG11⟩ := Kd.R_form HO_5.out (by omega); (first | cases eo11 | (injection eo11 with ea_ en_ ec_; (first | subst ea_ | (injection ea_ with ea_; subst ea_)); subst ec_; clear en_)); have GB11 := Aside0.mk gb11; have GG11 := Aside0.mk HG11; clear gb11 gl11 HG11; (first | simp only [add_plain] at hx370_0 | skip); obtain ⟨hx11_0, hf11_0⟩ := Kd.R_celln 0 HO_5.out (x9_1 : Int) p11 q11; replace p11 := eq_true p11; replace q11 := eq_true q11; obtain ⟨hy13_, hz13_⟩ := Kd.R_celln 0 HO_5.out (x9_1 : Int) (of_decide_eq_true (by first | (with_reducible assumption) | assumption)) (of_decide_eq_true (by first | (with_reducible assumption) | assumption)); have HP13 := Kd.R_putg HO_5.out (x9_1 : Int) t371) | ((with_reducible refine gate_store (t := 3) (p := 41) rfl ?_); refine store_event (t := 3) (p := 41) (v := ?vo_w14) (w1 := (wr.setCell ⟨go11, (x9_1 : Int).toNat, none⟩ (.int .i64 t371))) ?hg ?ho ?hn ?hr ?_; (case ho => rfl); (case hg => rfl); (case hn => rfl); (case hr => first | (go_simp; done) | (go_simp; rfl)); intro w14 hw; have hg : wr.grownBy w14 (some go11) := (by rw [hw]; exact HP13.2); have hp_ : Kd.R (Kd.int .i64) 3 w14 w.heap.size (fun k_ => some k_ ≠ (u6 : Value).ownBlock) (.slice (some ⟨go11, 0, none⟩) x5_1.length co6) y372 := (by rw [hw, Ny372.out]; exact HP13.1); clear HP13; have n0_ := Aside0.mk (hp_); have n1_ := Aside0.mk (Kd.R_after (v := (.slice (some ⟨go11, 0, none⟩) x5_1.length co6)) (v1 := (.slice (some ⟨go11, 0, none⟩) x5_1.length co6)) (ok := (fun _ => True)) (by (with_reducible repeat (first | apply Kd.R_alloc | apply Kd.R_drewN | apply Kd.R_drew)); exact Kd.R_mono HO_6.out (fun _ hk => ⟨trivial, hk⟩)) hg (.inl rfl)); have n2_ := Aside0.mk ((by rw [hw]; exact below_set (HB.out) GB11.out : Below w.heap.size w w14)); clear HO_5; clear HO_6; clear HB; have HO_5 := n0_; have HO_6 := n1_; have HB := n2_; clear n0_ n1_ n2_; clear hg hw hp_; have p373 : 0 ≤ (x9_1 : Int) := of_decide_eq_true (by first | (with_reducible assumption) | assumption); have q373 : x9_1 < (y372.length : Int) := (by have h_ : (x9_1 : Int) < ((x5_1.length : Int) : Int) := of_decide_eq_true (by first | (with_reducible assumption) | assumption); first | (have e_ := (Kd.R_reads' HO_5.out).1; omega) | simpa only [Ny372.out, List.length_set] using h_); have ql373 : ((x9_1 : Int) < ((x5_1.length : Int) : Int)) = True := eq_true (of_decide_eq_true (by first | (with_reducible assumption) | assumption)); obtain ⟨ad373, e373, hx373_0⟩ := Kd.at_int (Kd.R_reads' HO_5.out).2.2 x9_1 p373 q373; obtain rfl : (⟨go11, 0, none⟩ : Addr) = ad373 := (by injection e373); (first | simp only [add_plain] at hx373_0 | simp only [add_at] at hx373_0 | simp only [Addr.add, Nat.zero_add] at hx373_0 | skip); replace p373 := eq_true p373; replace q373 := eq_true q373) | ((with_reducible refine gate_builtin (b := .append) (xs := #[.tmp 42, .tmp 47]) rfl ?_); (try (refine gate_guard (by rfl) ?_; dsimp only)); at_builtin; refine Kd.R_append (Kd.int .i64) (w0 := w) w.heap.size rfl (.tmp 42) (.tmp 47) 22 3 (.int .i64 0) 8 rfl Try.underlying22 info3 rfl (by decide) (by omega) u6 x6_1 (rd y372 x9_1) [.int .i64 (rd y372 x9_1)] (fun k_ => some k_ ≠ (.slice (some ⟨go11, 0, none⟩) x5_1.length co6 : Value).ownBlock) (fun _ => False) rfl rfl ?aP (fun _ hk => hk.elim) ?aF ?aO ?aB ?aS ?aL ?_; (case aP => exact rfl); (case aB => exact (by repeat (first | (with_reducible first | exact HB.out | apply below_alloc | apply pw_below_drewN | apply below_drew1) | exact HB.out))); (case aF => exact (fun k_ hk => Kd.fresh' (Kd.R_lt (by (with_reducible repeat (first | apply Kd.R_alloc | apply Kd.R_drewN | apply Kd.R_drew)); exact HO_5.out)) k_ hk)); (case aO => exact (by (with_reducible repeat (first | apply Kd.R_alloc | apply Kd.R_drewN | apply Kd.R_drew)); exact Kd.R_mono HO_6.out (fun _ hk => hk.2))); (case aS => exact (below_size (by repeat (first | (with_reducible first | exact HB.out | apply below_alloc | apply pw_below_drewN | apply below_drew1) | exact HB.out)))); (case aL => have := LMc12.out; omega); intro v375 w15 ho hb hg hat; rw [← Ny374.out] at ho; have n0_ := Aside0.mk (Kd.R_after (ok := (fun _ => True)) (by (with_reducible repeat (first | apply Kd.R_alloc | apply Kd.R_drewN | apply Kd.R_drew)); exact Kd.R_mono HO_5.out (fun _ hk => ⟨trivial, hk⟩)) hg hat); have n1_ := Aside0.mk (hb); have n2_ := Aside0.mk (ho); clear HO_5; clear HB; clear HO_6; have HO_5 := n0_; have HB := n1_; have HO376 := n2_; clear n0_ n1_ n2_; clear ho hb hg hat))
       (try simp only [← hl5_1])
       go_roundg k1
       case measure => have := HK1.out; omega
       case rel => exact ⟨(y372), (y374), (wrap64 (x9_1 - 1)), (by first | rfl | (simp; done) | (simp [*]; done)), H', ⟨by have := HK1.out; omega⟩, ⟨by (try simp only [hl5_1]); (with_reducible repeat (first | apply Kd.R_alloc | apply Kd.R_drewN | apply Kd.R_drew)); exact Kd.R_mono HO_5.out (fun _ hk => hk.2)⟩, ⟨by (try simp only [hl5_1]); (with_reducible repeat (first | apply Kd.R_alloc | apply Kd.R_drewN | apply Kd.R_drew)); exact HO376.out⟩, ⟨by repeat (first | (with_reducible first | exact HB.out | apply below_alloc | apply pw_below_drewN | apply below_drew1) | exact HB.out)⟩⟩
      ·
       rw [if_neg c12] at H
       exact absurd H (by simp)
     ·
      rw [if_neg c9] at H
      exact absurd H (by simp)
    ·
     rw [if_neg c8] at H
     exact absurd H (by simp)
   ·
    rw [if_neg c7] at H
    have c7b0 : decide (0 ≤ x9_1) = false := decide_eq_false c7
    clear c7
    have H' := Aside0.mk H
    clear H
    go_wp2
    go_loopg [7, 10] k1 (fun kq v7 v10 w' => ∃ (x7_2 : List Int) (x10_2 : Int), v10 = .int .i64 x10_2 ∧ Aside0 (turndownlaw06_CodeLimits.l1 kq x5_1 x6_1 x7_2 (wrap64 (1 + t369)) x10_2 = some r) ∧ Aside0 (kq ≤ k1) ∧ Aside0 (Kd.R (Kd.int .i64) 3 w' w.heap.size (fun k_ => some k_ ≠ (u6 : Value).ownBlock ∧ some k_ ≠ (v7 : Value).ownBlock) (.slice Ao6 x5_1.length co6) x5_1) ∧ Aside0 (Kd.R (Kd.int .i64) 3 w' w.heap.size (fun k_ => some k_ ≠ ((.slice Ao6 x5_1.length co6) : Value).ownBlock ∧ some k_ ≠ (v7 : Value).ownBlock) u6 x6_1) ∧ Aside0 (Kd.R (Kd.int .i64) 3 w' w.heap.size (fun k_ => some k_ ≠ ((.slice Ao6 x5_1.length co6) : Value).ownBlock ∧ some k_ ≠ (u6 : Value).ownBlock) v7 x7_2) ∧ Aside0 (Below w.heap.size w w'))
    case atStart => exact ⟨(([] : List Int)), (0), (by first | rfl | (simp; done) | (simp [*]; done)), H', ⟨Nat.le_refl _⟩, ⟨by (try simp only [hl5_1]); (with_reducible repeat (first | apply Kd.R_alloc | apply Kd.R_drewN | apply Kd.R_drew)); exact Kd.R_mono HO_5.out (fun _ hk => ⟨hk, (by simp [Value.ownBlock])⟩)⟩, ⟨by (try simp only [hl5_1]); (with_reducible repeat (first | apply Kd.R_alloc | apply Kd.R_drewN | apply Kd.R_drew)); exact Kd.R_mono HO_6.out (fun _ hk => ⟨hk, (by simp [Value.ownBlock])⟩)⟩, ⟨by (try simp only [hl5_1]); first | exact Kd.R_nil _ _ _ _ _ | exact Kd.N_nil _ _ _ _ _ | exact Kd.V_nil _ _ _ _ _ | exact Kd.Q_nil _ _ _ _ _ | exact Kd.S_nil _ _ _ _ _⟩, ⟨by repeat (first | (with_reducible first | exact HB.out | apply below_alloc | apply pw_below_drewN | apply below_drew1) | exact HB.out)⟩⟩
    case round =>
     clear H'
     try clear c1
     try clear p1
     try clear q1
     try clear hx1
     try clear p2
     try clear c3
     try clear p3
     try clear q3
     try clear hx3
     try clear p6
     try clear c7
     try clear c7b0
     try clear c8
     try clear c8b0
     try clear c9
     try clear c9b0
     try clear p11
     try clear q11
     try clear hx11
     try clear hf11
     try clear c12
     try clear hx11_0
     try clear hx370_0
     try clear hx373_0
     try clear p11
     try clear p2
     try clear p370
     try clear p373
     try clear p6
     try clear q11
     try clear q370
     try clear q373
     obtain ⟨x7_2, x10_2, rfl, HA, HK2, HO_5, HO_6, HO_7, HB⟩ := hrel
     cases gk with
     | zero => exact absurd HA.out (by simp [turndownlaw06_CodeLimits.l1])
     | succ k2 =>
      have H := HA.out
      clear HA
      simp only [turndownlaw06_CodeLimits.l1] at H
      by_cases c16 : x10_2 < (x5_1.length : Int)
      ·
       rw [if_pos c16] at H
       have c16b0 : decide (x10_2 < (x5_1.length : Int)) = true := decide_eq_true c16
       clear c16
       by_cases c17 : 0 ≤ x10_2
       ·
        rw [if_pos c17] at H
        have c17b0 : decide (0 ≤ x10_2) = true := decide_eq_true c17
        clear c17
        by_cases c18 : x7_2.length < 17592186044416
        ·
         rw [if_pos c18] at H
         have LMc18 := Aside0.mk c18
         clear c18
         obtain ⟨y378, hy378⟩ : ∃ y_ : List Int, y_ = (x7_2 ++ [wrap64 ((wrap64 (1 + t369)) * (rd x5_1 x10_2))]) := ⟨_, rfl⟩
         replace H : (turndownlaw06_CodeLimits.l1 k2 x5_1 x6_1 y378 (wrap64 (1 + t369)) (wrap64 (x10_2 + 1))) = some r := by first | (rw [hy378]; with_reducible exact H) | (have H2_ := (Option.bind_some _ _).symm.trans H; rw [hy378]; with_reducible exact H2_) | (have H2_ := (Option.bind_some _ _).symm.trans H; with_reducible exact H2_) | with_reducible exact H | (rw [hy378]; exact H) | exact H
         have Ny378 := Aside0.mk hy378
         clear hy378
         have H' := Aside0.mk H
         clear H
         have p377 : 0 ≤ (x10_2 : Int) := of_decide_eq_true (by first | (with_reducible assumption) | assumption)
         have q377 : x10_2 < (x5_1.length : Int) := of_decide_eq_true (by first | (with_reducible assumption) | assumption)
         obtain ⟨ad377, e377, hx377_0⟩ := Kd.at_int (Kd.R_reads' HO_5.out).2.2 x10_2 p377 q377
         cases e377
         replace p377 := eq_true p377
         replace q377 := eq_true q377
         go_wp2_with (first | ((with_reducible refine gate_builtin (b := .append) (xs := #[.tmp 55, .tmp 62]) rfl ?_); (try (refine gate_guard (by rfl) ?_; dsimp only)); at_builtin; refine Kd.R_append (Kd.int .i64) (w0 := w) w.heap.size rfl (.tmp 55) (.tmp 62) 22 3 (.int .i64 0) 8 rfl Try.underlying22 info3 rfl (by decide) (by omega) u7 x7_2 (wrap64 ((wrap64 (1 + t369)) * (rd x5_1 x10_2))) [.int .i64 (wrap64 ((wrap64 (1 + t369)) * (rd x5_1 x10_2)))] (fun k_ => some k_ ≠ (.slice (some ad377) x5_1.length co6 : Value).ownBlock ∧ some k_ ≠ (u6 : Value).ownBlock) (fun _ => False) rfl rfl ?aP (fun _ hk => hk.elim) ?aF ?aO ?aB ?aS ?aL ?_; (case aP => exact rfl); (case aB => exact (by repeat (first | (with_reducible first | exact HB.out | apply below_alloc | apply pw_below_drewN | apply below_drew1) | exact HB.out))); (case aF => exact (fun k_ hk => ⟨Kd.fresh' (Kd.R_lt (by (with_reducible repeat (first | apply Kd.R_alloc | apply Kd.R_drewN | apply Kd.R_drew)); exact HO_5.out)) k_ hk, Kd.fresh' (Kd.R_lt (by (with_reducible repeat (first | apply Kd.R_alloc | apply Kd.R_drewN | apply Kd.R_drew)); exact HO_6.out)) k_ hk⟩)); (case aO => exact (by (with_reducible repeat (first | apply Kd.R_alloc | apply Kd.R_drewN | apply Kd.R_drew)); exact HO_7.out)); (case aS => exact (below_size (by repeat (first | (with_reducible first | exact HB.out | apply below_alloc | apply pw_below_drewN | apply below_drew1) | exact HB.out)))); (case aL => have := LMc18.out; omega); intro v379 w19 ho hb hg hat; rw [← Ny378.out] at ho; have n0_ := Aside0.mk (Kd.R_after (ok := (fun k_ => some k_ ≠ (u6 : Value).ownBlock)) (by (with_reducible repeat (first | apply Kd.R_alloc | apply Kd.R_drewN | apply Kd.R_drew)); exact HO_5.out) hg hat); have n1_ := Aside0.mk (Kd.R_after (ok := (fun k_ => some k_ ≠ (.slice (some ad377) x5_1.length co6 : Value).ownBlock)) (by (with_reducible repeat (first | apply Kd.R_alloc | apply Kd.R_drewN | apply Kd.R_drew)); exact HO_6.out) hg hat); have n2_ := Aside0.mk (hb); have n3_ := Aside0.mk (ho); clear HO_5; clear HO_6; clear HB; clear HO_7; have HO_5 := n0_; have HO_6 := n1_; have HB := n2_; have HO380 := n3_; clear n0_ n1_ n2_ n3_; clear ho hb hg hat))
         go_roundg k2
         case measure => have := HK1.out; have := HK2.out; omega
         case rel => exact ⟨(y378), (wrap64 (x10_2 + 1)), (by first | rfl | (simp; done) | (simp [*]; done)), H', ⟨by have := HK1.out; have := HK2.out; omega⟩, ⟨by (try simp only [hl5_1]); (with_reducible repeat (first | apply Kd.R_alloc | apply Kd.R_drewN | apply Kd.R_drew)); exact HO_5.out⟩, ⟨by (try simp only [hl5_1]); (with_reducible repeat (first | apply Kd.R_alloc | apply Kd.R_drewN | apply Kd.R_drew)); exact HO_6.out⟩, ⟨by (try simp only [hl5_1]); (with_reducible repeat (first | apply Kd.R_alloc | apply Kd.R_drewN | apply Kd.R_drew)); exact HO380.out⟩, ⟨by repeat (first | (with_reducible first | exact HB.out | apply below_alloc | apply pw_below_drewN | apply below_drew1) | exact HB.out)⟩⟩
        ·
         rw [if_neg c18] at H
         exact absurd H (by simp)
       ·
        rw [if_neg c17] at H
        exact absurd H (by simp)
      ·
       rw [if_neg c16] at H
       have c16b0 : decide (x10_2 < (x5_1.length : Int)) = false := decide_eq_false c16
       clear c16
       have H' := Aside0.mk H
       clear H
       go_wp2
       go_loopg [11, 12] k2 (fun kq v11 v12 w' => ∃ (x11_3 : Int) (x12_3 : Int), v11 = .int .i64 x11_3 ∧ v12 = .int .i64 x12_3 ∧ Aside0 (turndownlaw06_CodeLimits.l2 kq x5_1 x6_1 x7_2 (wrap64 (1 + t369)) x11_3 x12_3 = some r) ∧ Aside0 (kq ≤ k2) ∧ Aside0 (Kd.R (Kd.int .i64) 3 w' w.heap.size (fun k_ => some k_ ≠ (u6 : Value).ownBlock ∧ some k_ ≠ (u7 : Value).ownBlock) (.slice Ao6 x5_1.length co6) x5_1) ∧ Aside0 (Kd.R (Kd.int .i64) 3 w' w.heap.size (fun k_ => some k_ ≠ ((.slice Ao6 x5_1.length co6) : Value).ownBlock ∧ some k_ ≠ (u7 : Value).ownBlock) u6 x6_1) ∧ Aside0 (Kd.R (Kd.int .i64) 3 w' w.heap.size (fun k_ => some k_ ≠ ((.slice Ao6 x5_1.length co6) : Value).ownBlock ∧ some k_ ≠ (u6 : Value).ownBlock) u7 x7_2) ∧ Aside0 (Below w.heap.size w w'))
       case atStart => exact ⟨((-1)), (0), (by first | rfl | (simp; done) | (simp [*]; done)), (by first | rfl | (simp; done) | (simp [*]; done)), H', ⟨Nat.le_refl _⟩, ⟨by (try simp only [hl5_1]); (with_reducible repeat (first | apply Kd.R_alloc | apply Kd.R_drewN | apply Kd.R_drew)); exact HO_5.out⟩, ⟨by (try simp only [hl5_1]); (with_reducible repeat (first | apply Kd.R_alloc | apply Kd.R_drewN | apply Kd.R_drew)); exact HO_6.out⟩, ⟨by (try simp only [hl5_1]); (with_reducible repeat (first | apply Kd.R_alloc | apply Kd.R_drewN | apply Kd.R_drew)); exact HO_7.out⟩, ⟨by repeat (first | (with_reducible first | exact HB.out | apply below_alloc | apply pw_below_drewN | apply below_drew1) | exact HB.out)⟩⟩
       case round =>
        clear H'
        try clear c1
        try clear p1
        try clear q1
        try clear hx1
        try clear p2
        try clear c3
        try clear p3
        try clear q3
        try clear hx3
        try clear p6
        try clear c7
        try clear c7b0
        try clear c8
        try clear c8b0
        try clear c9
        try clear c9b0
        try clear p11
        try clear q11
        try clear hx11
        try clear hf11
        try clear c12
        try clear c16
        try clear c16b0
        try clear c17
        try clear c17b0
        try clear c18
        try clear hx11_0
        try clear hx370_0
        try clear hx373_0
        try clear hx377_0
        try clear p1
        try clear p11
        try clear p2
        try clear p3
        try clear p370
        try clear p373
        try clear p377
        try clear p6
        try clear q1
        try clear q11
        try clear q3
        try clear q370
        try clear q373
        try clear q377
        obtain ⟨x11_3, x12_3, rfl, rfl, HA, HK3, HO_5, HO_6, HO_7, HB⟩ := hrel
        cases gk with
        | zero => exact absurd HA.out (by simp [turndownlaw06_CodeLimits.l2])
        | succ k3 =>
         have H := HA.out
         clear HA
         simp only [turndownlaw06_CodeLimits.l2] at H
         by_cases c20 : x12_3 ≤ 32
         ·
          rw [if_pos c20] at H
          have c20b0 : decide (x12_3 ≤ 32) = true := decide_eq_true c20
          clear c20
          replace H := Option.bind_eq_some_iff.mp H
          obtain ⟨⟨t382, t383, t384⟩, A210, H⟩ := H
          replace H : ((code_Best.f k3 x6_1 x12_3).bind fun bt387 => ((code_Best.f k3 x7_2 x12_3).bind fun bt392 => (if t384 = bt387.2.2 then (if t384 = bt392.2.2 then (if x12_3 > 5 then (turndownlaw06_CodeLimits.j3 k3 x5_1 x6_1 x7_2 (wrap64 (1 + t369)) x11_3 x12_3 t383 t384 bt387.2.1 bt392.2.1 ((t384 == 0) != true)) else (if 0 ≤ x12_3 then (turndownlaw06_CodeLimits.j3 k3 x5_1 x6_1 x7_2 (wrap64 (1 + t369)) x11_3 x12_3 t383 t384 bt387.2.1 bt392.2.1 ((t384 == 0) != (decide ((x5_1.length : Int) ≤ (shl .i64 1 x12_3))))) else (none))) else (turndownlaw06_CodeLimits.j3 k3 x5_1 x6_1 x7_2 (wrap64 (1 + t369)) x11_3 x12_3 t383 t384 bt387.2.1 bt392.2.1 true)) else (turndownlaw06_CodeLimits.j3 k3 x5_1 x6_1 x7_2 (wrap64 (1 + t369)) x11_3 x12_3 t383 t384 bt387.2.1 bt392.2.1 true)))) = some r := H
          have A21 := Aside0.mk A210
          clear A210
          replace H := Option.bind_eq_some_iff.mp H
          obtain ⟨⟨t387, t388, t389⟩, A220, H⟩ := H
          replace H : ((code_Best.f k3 x7_2 x12_3).bind fun bt392 => (if t384 = t389 then (if t384 = bt392.2.2 then (if x12_3 > 5 then (turndownlaw06_CodeLimits.j3 k3 x5_1 x6_1 x7_2 (wrap64 (1 + t369)) x11_3 x12_3 t383 t384 t388 bt392.2.1 ((t384 == 0) != true)) else (if 0 ≤ x12_3 then (turndownlaw06_CodeLimits.j3 k3 x5_1 x6_1 x7_2 (wrap64 (1 + t369)) x11_3 x12_3 t383 t384 t388 bt392.2.1 ((t384 == 0) != (decide ((x5_1.length : Int) ≤ (shl .i64 1 x12_3))))) else (none))) else (turndownlaw06_CodeLimits.j3 k3 x5_1 x6_1 x7_2 (wrap64 (1 + t369)) x11_3 x12_3 t383 t384 t388 bt392.2.1 true)) else (turndownlaw06_CodeLimits.j3 k3 x5_1 x6_1 x7_2 (wrap64 (1 + t369)) x11_3 x12_3 t383 t384 t388 bt392.2.1 true))) = some r := H
          have A22 := Aside0.mk A220
          clear A220
          replace H := Option.bind_eq_some_iff.mp H
          obtain ⟨⟨t392, t393, t394⟩, A230, H⟩ := H
          replace H : (if t384 = t389 then (if t384 = t394 then (if x12_3 > 5 then (turndownlaw06_CodeLimits.j3 k3 x5_1 x6_1 x7_2 (wrap64 (1 + t369)) x11_3 x12_3 t383 t384 t388 t393 ((t384 == 0) != true)) else (if 0 ≤ x12_3 then (turndownlaw06_CodeLimits.j3 k3 x5_1 x6_1 x7_2 (wrap64 (1 + t369)) x11_3 x12_3 t383 t384 t388 t393 ((t384 == 0) != (decide ((x5_1.length : Int) ≤ (shl .i64 1 x12_3))))) else (none))) else (turndownlaw06_CodeLimits.j3 k3 x5_1 x6_1 x7_2 (wrap64 (1 + t369)) x11_3 x12_3 t383 t384 t388 t393 true)) else (turndownlaw06_CodeLimits.j3 k3 x5_1 x6_1 x7_2 (wrap64 (1 + t369)) x11_3 x12_3 t383 t384 t388 t393 true)) = some r := H
          have A23 := Aside0.mk A230
          clear A230
          have HC24 := Aside0.mk H
          clear H
          go_upto_region 20 with (first | ((with_reducible refine gate_callee (f := 20) rfl ?_); refine goesL_ (some 71) rfl rfl Try.func20 (by kernel_rfl) rfl #[.slice Ao6 x5_1.length co6, .int .i64 x12_3] rfl (by (try simp only [List.map_toArray, List.map_cons, List.map_nil]); first | done | rfl | (simp only [List.length_drop, List.length_take]; rfl)) ?_; (with_reducible refine (code_Best.calls k3 _ _ x5_1 x12_3 t382 t383 t384 _ ?side1 ?side2 A21.out).mono ?_); (case side1 => repeat (first | exact (Kd.R_reads' HO_5.out).2.2 | (with_reducible refine Kd.C_alloc ?_ _) | (with_reducible refine Kd.C_drewN ?_ _) | (with_reducible refine Kd.C_drew ?_))); (case side2 => exact (Kd.R_reads' HO_5.out).2.1); rintro e w25 ⟨v385, rfl, ho0, hb⟩; refine ⟨_, rfl, ?_⟩; have n0_ := Aside0.mk (Kd.R_elder' (by (with_reducible repeat (first | apply Kd.R_alloc | apply Kd.R_drewN | apply Kd.R_drew)); exact HO_5.out) (Kd.R_base ho0) hb); have n1_ := Aside0.mk (Kd.R_elder' (by (with_reducible repeat (first | apply Kd.R_alloc | apply Kd.R_drewN | apply Kd.R_drew)); exact HO_6.out) (Kd.R_base ho0) hb); have n2_ := Aside0.mk (Kd.R_elder' (by (with_reducible repeat (first | apply Kd.R_alloc | apply Kd.R_drewN | apply Kd.R_drew)); exact HO_7.out) (Kd.R_base ho0) hb); have n3_ := Aside0.mk (Kd.R_lower (Kd.R_new' (Kd.R_new' (Kd.R_new' ho0 (Kd.R_lt (by (with_reducible repeat (first | apply Kd.R_alloc | apply Kd.R_drewN | apply Kd.R_drew)); exact HO_5.out))) (Kd.R_lt (by (with_reducible repeat (first | apply Kd.R_alloc | apply Kd.R_drewN | apply Kd.R_drew)); exact HO_6.out))) (Kd.R_lt (by (with_reducible repeat (first | apply Kd.R_alloc | apply Kd.R_drewN | apply Kd.R_drew)); exact HO_7.out))) (below_size (by repeat (first | (with_reducible first | exact HB.out | apply below_alloc | apply pw_below_drewN | apply below_drew1) | exact HB.out)))); have n4_ := Aside0.mk (below_step (by repeat (first | (with_reducible first | exact HB.out | apply below_alloc | apply pw_below_drewN | apply below_drew1) | exact HB.out)) hb); clear HO_5; clear HO_6; clear HO_7; clear HB; have HO_5 := n0_; have HO_6 := n1_; have HO_7 := n2_; have HO386 := n3_; have HB := n4_; clear n0_ n1_ n2_ n3_ n4_; (try clear hb); (try clear hb2); (try clear hk); (try clear hi); (try clear ho0); obtain ⟨Ao26, co26, eo26⟩ := Kd.R_slice HO_6.out; subst eo26) | ((with_reducible refine gate_callee (f := 20) rfl ?_); refine goesL_ (some 78) rfl rfl Try.func20 (by kernel_rfl) rfl #[.slice Ao26 x6_1.length co26, .int .i64 x12_3] rfl (by (try simp only [List.map_toArray, List.map_cons, List.map_nil]); first | done | rfl | (simp only [List.length_drop, List.length_take]; rfl)) ?_; (with_reducible refine (code_Best.calls k3 _ _ x6_1 x12_3 t387 t388 t389 _ ?side1 ?side2 A22.out).mono ?_); (case side1 => repeat (first | exact (Kd.R_reads' HO_6.out).2.2 | (with_reducible refine Kd.C_alloc ?_ _) | (with_reducible refine Kd.C_drewN ?_ _) | (with_reducible refine Kd.C_drew ?_))); (case side2 => exact (Kd.R_reads' HO_6.out).2.1); rintro e w27 ⟨v390, rfl, ho0, hb⟩; refine ⟨_, rfl, ?_⟩; have n0_ := Aside0.mk (Kd.R_elder' (by (with_reducible repeat (first | apply Kd.R_alloc | apply Kd.R_drewN | apply Kd.R_drew)); exact HO_5.out) (Kd.R_base ho0) hb); have n1_ := Aside0.mk (Kd.R_elder' (by (with_reducible repeat (first | apply Kd.R_alloc | apply Kd.R_drewN | apply Kd.R_drew)); exact HO_6.out) (Kd.R_base ho0) hb); have n2_ := Aside0.mk (Kd.R_elder' (by (with_reducible repeat (first | apply Kd.R_alloc | apply Kd.R_drewN | apply Kd.R_drew)); exact HO_7.out) (Kd.R_base ho0) hb); have n3_ := Aside0.mk (Kd.R_elder' (by (with_reducible repeat (first | apply Kd.R_alloc | apply Kd.R_drewN | apply Kd.R_drew)); exact HO386.out) (Kd.R_base ho0) hb); have n4_ := Aside0.mk (Kd.R_lower (Kd.R_new' (Kd.R_new' (Kd.R_new' (Kd.R_new' ho0 (Kd.R_lt (by (with_reducible repeat (first | apply Kd.R_alloc | apply Kd.R_drewN | apply Kd.R_drew)); exact HO_5.out))) (Kd.R_lt (by (with_reducible repeat (first | apply Kd.R_alloc | apply Kd.R_drewN | apply Kd.R_drew)); exact HO_6.out))) (Kd.R_lt (by (with_reducible repeat (first | apply Kd.R_alloc | apply Kd.R_drewN | apply Kd.R_drew)); exact HO_7.out))) (Kd.R_lt (by (with_reducible repeat (first | apply Kd.R_alloc | apply Kd.R_drewN | apply Kd.R_drew)); exact HO386.out))) (below_size (by repeat (first | (with_reducible first | exact HB.out | apply below_alloc | apply pw_below_drewN | apply below_drew1) | exact HB.out)))); have n5_ := Aside0.mk (below_step (by repeat (first | (with_reducible first | exact HB.out | apply below_alloc | apply pw_below_drewN | apply below_drew1) | exact HB.out)) hb); clear HO_5; clear HO_6; clear HO_7; clear HO386; clear HB; have HO_5 := n0_; have HO_6 := n1_; have HO_7 := n2_; have HO386 := n3_; have HO391 := n4_; have HB := n5_; clear n0_ n1_ n2_ n3_ n4_ n5_; (try clear hb); (try clear hb2); (try clear hk); (try clear hi); (try clear ho0); obtain ⟨Ao28, co28, eo28⟩ := Kd.R_slice HO_7.out; subst eo28) | ((with_reducible refine gate_callee (f := 20) rfl ?_); refine goesL_ (some 85) rfl rfl Try.func20 (by kernel_rfl) rfl #[.slice Ao28 x7_2.length co28, .int .i64 x12_3] rfl (by (try simp only [List.map_toArray, List.map_cons, List.map_nil]); first | done | rfl | (simp only [List.length_drop, List.length_take]; rfl)) ?_; (with_reducible refine (code_Best.calls k3 _ _ x7_2 x12_3 t392 t393 t394 _ ?side1 ?side2 A23.out).mono ?_); (case side1 => repeat (first | exact (Kd.R_reads' HO_7.out).2.2 | (with_reducible refine Kd.C_alloc ?_ _) | (with_reducible refine Kd.C_drewN ?_ _) | (with_reducible refine Kd.C_drew ?_))); (case side2 => exact (Kd.R_reads' HO_7.out).2.1); rintro e w29 ⟨v395, rfl, ho0, hb⟩; refine ⟨_, rfl, ?_⟩; have n0_ := Aside0.mk (Kd.R_elder' (by (with_reducible repeat (first | apply Kd.R_alloc | apply Kd.R_drewN | apply Kd.R_drew)); exact HO_5.out) (Kd.R_base ho0) hb); have n1_ := Aside0.mk (Kd.R_elder' (by (with_reducible repeat (first | apply Kd.R_alloc | apply Kd.R_drewN | apply Kd.R_drew)); exact HO_6.out) (Kd.R_base ho0) hb); have n2_ := Aside0.mk (Kd.R_elder' (by (with_reducible repeat (first | apply Kd.R_alloc | apply Kd.R_drewN | apply Kd.R_drew)); exact HO_7.out) (Kd.R_base ho0) hb); have n3_ := Aside0.mk (Kd.R_elder' (by (with_reducible repeat (first | apply Kd.R_alloc | apply Kd.R_drewN | apply Kd.R_drew)); exact HO386.out) (Kd.R_base ho0) hb); have n4_ := Aside0.mk (Kd.R_elder' (by (with_reducible repeat (first | apply Kd.R_alloc | apply Kd.R_drewN | apply Kd.R_drew)); exact HO391.out) (Kd.R_base ho0) hb); have n5_ := Aside0.mk (Kd.R_lower (Kd.R_new' (Kd.R_new' (Kd.R_new' (Kd.R_new' (Kd.R_new' ho0 (Kd.R_lt (by (with_reducible repeat (first | apply Kd.R_alloc | apply Kd.R_drewN | apply Kd.R_drew)); exact HO_5.out))) (Kd.R_lt (by (with_reducible repeat (first | apply Kd.R_alloc | apply Kd.R_drewN | apply Kd.R_drew)); exact HO_6.out))) (Kd.R_lt (by (with_reducible repeat (first | apply Kd.R_alloc | apply Kd.R_drewN | apply Kd.R_drew)); exact HO_7.out))) (Kd.R_lt (by (with_reducible repeat (first | apply Kd.R_alloc | apply Kd.R_drewN | apply Kd.R_drew)); exact HO386.out))) (Kd.R_lt (by (with_reducible repeat (first | apply Kd.R_alloc | apply Kd.R_drewN | apply Kd.R_drew)); exact HO391.out))) (below_size (by repeat (first | (with_reducible first | exact HB.out | apply below_alloc | apply pw_below_drewN | apply below_drew1) | exact HB.out)))); have n6_ := Aside0.mk (below_step (by repeat (first | (with_reducible first | exact HB.out | apply below_alloc | apply pw_below_drewN | apply below_drew1) | exact HB.out)) hb); clear HO_5; clear HO_6; clear HO_7; clear HO386; clear HO391; clear HB; have HO_5 := n0_; have HO_6 := n1_; have HO_7 := n2_; have HO386 := n3_; have HO391 := n4_; have HO396 := n5_; have HB := n6_; clear n0_ n1_ n2_ n3_ n4_ n5_ n6_; (try clear hb); (try clear hb2); (try clear hk); (try clear hi); (try clear ho0)))
          (try simp only [Act.put, List.setIfInBounds_toArray, List.set_cons_zero, List.set_cons_succ])
          go_cut [110] (fun v110 wc => ∃ (kq : Nat) (x110_23 : Bool), v110 = .bool x110_23 ∧ Aside0 (turndownlaw06_CodeLimits.j3 kq x5_1 x6_1 x7_2 (wrap64 (1 + t369)) x11_3 x12_3 t383 t384 t388 t393 x110_23 = some r) ∧ Aside0 (kq ≤ k3) ∧ Aside0 (Kd.R (Kd.int .i64) 3 wc w.heap.size (fun k_ => some k_ ≠ ((.slice Ao26 x6_1.length co26) : Value).ownBlock ∧ some k_ ≠ ((.slice Ao28 x7_2.length co28) : Value).ownBlock) (.slice Ao6 x5_1.length co6) x5_1) ∧ Aside0 (Kd.R (Kd.int .i64) 3 wc w.heap.size (fun k_ => some k_ ≠ ((.slice Ao6 x5_1.length co6) : Value).ownBlock ∧ some k_ ≠ ((.slice Ao28 x7_2.length co28) : Value).ownBlock) (.slice Ao26 x6_1.length co26) x6_1) ∧ Aside0 (Kd.R (Kd.int .i64) 3 wc w.heap.size (fun k_ => some k_ ≠ ((.slice Ao6 x5_1.length co6) : Value).ownBlock ∧ some k_ ≠ ((.slice Ao26 x6_1.length co26) : Value).ownBlock) (.slice Ao28 x7_2.length co28) x7_2) ∧ Aside0 (Below w.heap.size w wc))
          case first =>
           have H := HC24.out
           clear HC24
           by_cases c30 : t384 = t389
           ·
            rw [if_pos c30] at H
            have c30b0 : (t384 == t389) = true := beq_iff_eq.mpr c30
            have c30b1 : (t384 != t389) = false := bne_eq_false_iff_eq.mpr c30
            clear c30
            (first | rw [c30b0] | (simp only [i64_w, i32_w]; rw [c30b0]) | skip)
            by_cases c31 : t384 = t394
            ·
             rw [if_pos c31] at H
             have c31b0 : (t384 == t394) = true := beq_iff_eq.mpr c31
             have c31b1 : (t384 != t394) = false := bne_eq_false_iff_eq.mpr c31
             clear c31
             by_cases c32 : x12_3 > 5
             ·
              rw [if_pos c32] at H
              have c32b0 : decide (5 < x12_3) = true := decide_eq_true c32
              clear c32
              have H' := Aside0.mk H
              clear H
              go_wp2
              go_meet
              case rel => exact ⟨_, (((t384 == 0) != true)), (by first | rfl | (simp; done) | (simp [*]; done)), H', ⟨by have := HK1.out; have := HK2.out; have := HK3.out; first | omega | exact Nat.le_refl _⟩, ⟨by (try simp only [hl5_1]); (with_reducible repeat (first | apply Kd.R_alloc | apply Kd.R_drewN | apply Kd.R_drew)); exact Kd.R_mono HO_5.out (fun _ hk => ⟨hk.1.1.1.1, hk.1.1.1.2⟩)⟩, ⟨by (try simp only [hl5_1]); (with_reducible repeat (first | apply Kd.R_alloc | apply Kd.R_drewN | apply Kd.R_drew)); exact Kd.R_mono HO_6.out (fun _ hk => ⟨hk.1.1.1.1, hk.1.1.1.2⟩)⟩, ⟨by (try simp only [hl5_1]); (with_reducible repeat (first | apply Kd.R_alloc | apply Kd.R_drewN | apply Kd.R_drew)); exact Kd.R_mono HO_7.out (fun _ hk => ⟨hk.1.1.1.1, hk.1.1.1.2⟩)⟩, ⟨by repeat (first | (with_reducible first | exact HB.out | apply below_alloc | apply pw_below_drewN | apply below_drew1) | exact HB.out)⟩⟩
             ·
              rw [if_neg c32] at H
              have c32b0 : decide (5 < x12_3) = false := decide_eq_false c32
              clear c32
              by_cases c33 : 0 ≤ x12_3
              ·
               rw [if_pos c33] at H
               have c33b0 := eq_true c33
               have c33b1 : decide (0 ≤ x12_3) = true := decide_eq_true c33
               clear c33
               obtain ⟨ji34, hji34⟩ : ∃ j_ : Int, (shl .i64 1 x12_3) = j_ := ⟨_, rfl⟩
               replace H : (turndownlaw06_CodeLimits.j3 k3 x5_1 x6_1 x7_2 (wrap64 (1 + t369)) x11_3 x12_3 t383 t384 t388 t393 ((t384 == 0) != (decide ((x5_1.length : Int) ≤ (ji34))))) = some r := by first | (rw [hji34] at H; exact H) | (simp only [hji34] at H ⊢; exact H)
               have hji34_ : (IntKind.i64.wrap (1 * 2 ^ min x12_3.toNat 64)) = ji34 := hji34
               have hji34z : x12_3 ≤ 64 → (IntKind.i64.wrap (1 * 2 ^ x12_3.toNat)) = ji34 := shl_small hji34
               have hji34u : (IntKind.i64.wrap (2 ^ min x12_3.toNat 64)) = ji34 := by have h_ := hji34_; rw [Int.one_mul] at h_; exact h_
               have hji34v : x12_3 ≤ 64 → (IntKind.i64.wrap (2 ^ x12_3.toNat)) = ji34 := fun hle_ => by have h_ := hji34z hle_; rw [Int.one_mul] at h_; exact h_
               have hji34y : (wrap64 (1 * 2 ^ min x12_3.toNat 64)) = ji34 := (i64_w _).symm.trans hji34_
               have hji34x : x12_3 ≤ 64 → (wrap64 (1 * 2 ^ x12_3.toNat)) = ji34 := fun h_ => (i64_w _).symm.trans (hji34z h_)
               have H' := Aside0.mk H
               clear H
               go_wp2
               go_meet
               case rel => exact ⟨_, (((t384 == 0) != (decide ((x5_1.length : Int) ≤ (ji34))))), (by first | rfl | (simp; done) | (simp only [← hji34] <;> (first | rfl | simp)) | (simp [*]; done)), H', ⟨by have := HK1.out; have := HK2.out; have := HK3.out; first | omega | exact Nat.le_refl _⟩, ⟨by (try simp only [hl5_1]); (with_reducible repeat (first | apply Kd.R_alloc | apply Kd.R_drewN | apply Kd.R_drew)); exact Kd.R_mono HO_5.out (fun _ hk => ⟨hk.1.1.1.1, hk.1.1.1.2⟩)⟩, ⟨by (try simp only [hl5_1]); (with_reducible repeat (first | apply Kd.R_alloc | apply Kd.R_drewN | apply Kd.R_drew)); exact Kd.R_mono HO_6.out (fun _ hk => ⟨hk.1.1.1.1, hk.1.1.1.2⟩)⟩, ⟨by (try simp only [hl5_1]); (with_reducible repeat (first | apply Kd.R_alloc | apply Kd.R_drewN | apply Kd.R_drew)); exact Kd.R_mono HO_7.out (fun _ hk => ⟨hk.1.1.1.1, hk.1.1.1.2⟩)⟩, ⟨by repeat (first | (with_reducible first | exact HB.out | apply below_alloc | apply pw_below_drewN | apply below_drew1) | exact HB.out)⟩⟩
              ·
               rw [if_neg c33] at H
               exact absurd H (by simp)
            ·
             rw [if_neg c31] at H
             have c31b0 : (t384 == t394) = false := beq_eq_false_iff_ne.mpr c31
             have c31b1 : (t384 != t394) = true := bne_iff_ne.mpr c31
             have H' := Aside0.mk H
             clear H
             go_wp2
             go_meet
             case rel => exact ⟨_, (true), (by first | rfl | (simp; done) | (simp [*]; done)), H', ⟨by have := HK1.out; have := HK2.out; have := HK3.out; first | omega | exact Nat.le_refl _⟩, ⟨by (try simp only [hl5_1]); (with_reducible repeat (first | apply Kd.R_alloc | apply Kd.R_drewN | apply Kd.R_drew)); exact Kd.R_mono HO_5.out (fun _ hk => ⟨hk.1.1.1.1, hk.1.1.1.2⟩)⟩, ⟨by (try simp only [hl5_1]); (with_reducible repeat (first | apply Kd.R_alloc | apply Kd.R_drewN | apply Kd.R_drew)); exact Kd.R_mono HO_6.out (fun _ hk => ⟨hk.1.1.1.1, hk.1.1.1.2⟩)⟩, ⟨by (try simp only [hl5_1]); (with_reducible repeat (first | apply Kd.R_alloc | apply Kd.R_drewN | apply Kd.R_drew)); exact Kd.R_mono HO_7.out (fun _ hk => ⟨hk.1.1.1.1, hk.1.1.1.2⟩)⟩, ⟨by repeat (first | (with_reducible first | exact HB.out | apply below_alloc | apply pw_below_drewN | apply below_drew1) | exact HB.out)⟩⟩
           ·
            rw [if_neg c30] at H
            have c30b0 : (t384 == t389) = false := beq_eq_false_iff_ne.mpr c30
            have c30b1 : (t384 != t389) = true := bne_iff_ne.mpr c30
            (first | rw [c30b0] | (simp only [i64_w, i32_w]; rw [c30b0]) | skip)
            have H' := Aside0.mk H
            clear H
            go_wp2
            go_meet
            case rel => exact ⟨_, (true), (by first | rfl | (simp; done) | (simp [*]; done)), H', ⟨by have := HK1.out; have := HK2.out; have := HK3.out; first | omega | exact Nat.le_refl _⟩, ⟨by (try simp only [hl5_1]); (with_reducible repeat (first | apply Kd.R_alloc | apply Kd.R_drewN | apply Kd.R_drew)); exact Kd.R_mono HO_5.out (fun _ hk => ⟨hk.1.1.1.1, hk.1.1.1.2⟩)⟩, ⟨by (try simp only [hl5_1]); (with_reducible repeat (first | apply Kd.R_alloc | apply Kd.R_drewN | apply Kd.R_drew)); exact Kd.R_mono HO_6.out (fun _ hk => ⟨hk.1.1.1.1, hk.1.1.1.2⟩)⟩, ⟨by (try simp only [hl5_1]); (with_reducible repeat (first | apply Kd.R_alloc | apply Kd.R_drewN | apply Kd.R_drew)); exact Kd.R_mono HO_7.out (fun _ hk => ⟨hk.1.1.1.1, hk.1.1.1.2⟩)⟩, ⟨by repeat (first | (with_reducible first | exact HB.out | apply below_alloc | apply pw_below_drewN | apply below_drew1) | exact HB.out)⟩⟩
          case rest =>
           clear HC24
           try clear c1
           try clear p1
           try clear q1
           try clear hx1
           try clear c2
           try clear p2
           try clear c3
           try clear p3
           try clear q3
           try clear hx3
           try clear p6
           try clear c7
           try clear c7b0
           try clear c8
           try clear c8b0
           try clear c9
           try clear c9b0
           try clear p11
           try clear q11
           try clear hx11
           try clear hf11
           try clear c12
           try clear c16
           try clear c16b0
           try clear c17
           try clear c17b0
           try clear c18
           try clear c20
           try clear c20b0
           try clear c30
           try clear c30b0
           try clear c30b1
           try clear c31
           try clear c31b0
           try clear c31b1
           try clear c32
           try clear c32b0
           try clear c33
           try clear c33b0
           try clear c33b1
           try clear hx11_0
           try clear hx370_0
           try clear hx373_0
           try clear hx377_0
           try clear p1
           try clear p11
           try clear p2
           try clear p3
           try clear p370
           try clear p373
           try clear p377
           try clear p6
           try clear q1
           try clear q11
           try clear q3
           try clear q370
           try clear q373
           try clear q377
           obtain ⟨kq, x110_23, rfl, HA, HJ23, HO_5, HO_6, HO_7, HB⟩ := hcut
           cases kq with
           | zero => exact absurd HA.out (by simp [turndownlaw06_CodeLimits.j3])
           | succ kj23 =>
            have H := HA.out
            clear HA
            simp only [turndownlaw06_CodeLimits.j3] at H
            by_cases c35 : x110_23 = true
            ·
             subst c35
             have H1 : (some false) = some r := by rw [if_pos rfl] at H; exact H
             clear H
             have H := H1
             clear H1
             obtain rfl := Option.some.inj H
             go_wp2
             go_ret
             exact ⟨by first | rfl | (simp [errW_none, errW_some] <;> rfl) | (simp [*, errW_none, errW_some] <;> rfl), by repeat (first | (with_reducible first | exact HB.out | apply below_alloc | apply pw_below_drewN | apply below_drew1) | exact HB.out)⟩
            ·
             replace c35 := Bool.eq_false_iff.mpr c35
             subst c35
             have H1 : (if t384 = 0 then (if t388 = t383 then (if t393 = (wrap64 ((wrap64 (1 + t369)) * t383)) then (if x11_3 ≥ 0 then (if t383 > x11_3 then (some false) else (if x12_3 ≥ (x5_1.length : Int) then (if t383 = x11_3 then (turndownlaw06_CodeLimits.l2 kj23 x5_1 x6_1 x7_2 (wrap64 (1 + t369)) t383 (wrap64 (x12_3 + 1))) else (some false)) else (turndownlaw06_CodeLimits.l2 kj23 x5_1 x6_1 x7_2 (wrap64 (1 + t369)) t383 (wrap64 (x12_3 + 1))))) else (turndownlaw06_CodeLimits.l2 kj23 x5_1 x6_1 x7_2 (wrap64 (1 + t369)) t383 (wrap64 (x12_3 + 1)))) else (some false)) else (some false)) else (turndownlaw06_CodeLimits.l2 kj23 x5_1 x6_1 x7_2 (wrap64 (1 + t369)) x11_3 (wrap64 (x12_3 + 1)))) = some r := by rw [if_neg (show ¬ (false = true) by decide)] at H; exact H
             clear H
             have H := H1
             clear H1
             by_cases c36 : t384 = 0
             ·
              rw [if_pos c36] at H
              have c36b0 : (t384 == 0) = true := beq_iff_eq.mpr c36
              have c36b1 : (t384 != 0) = false := bne_eq_false_iff_eq.mpr c36
              clear c36
              by_cases c37 : t388 = t383
              ·
               rw [if_pos c37] at H
               have c37b0 : (t388 == t383) = true := beq_iff_eq.mpr c37
               have c37b1 : (t388 != t383) = false := bne_eq_false_iff_eq.mpr c37
               clear c37
               by_cases c38 : t393 = (wrap64 ((wrap64 (1 + t369)) * t383))
               ·
                rw [if_pos c38] at H
                have c38b0 : (t393 == (wrap64 ((wrap64 (1 + t369)) * t383))) = true := beq_iff_eq.mpr c38
                have c38b1 : (t393 != (wrap64 ((wrap64 (1 + t369)) * t383))) = false := bne_eq_false_iff_eq.mpr c38
                clear c38
                by_cases c39 : x11_3 ≥ 0
                ·
                 rw [if_pos c39] at H
                 have c39b0 : decide (0 ≤ x11_3) = true := decide_eq_true c39
                 clear c39
                 by_cases c40 : t383 > x11_3
                 ·
                  rw [if_pos c40] at H
                  have c40b0 : decide (x11_3 < t383) = true := decide_eq_true c40
                  clear c40
                  obtain rfl := Option.some.inj H
                  go_wp2
                  go_ret
                  exact ⟨by first | rfl | (simp [errW_none, errW_some] <;> rfl) | (simp [*, errW_none, errW_some] <;> rfl), by repeat (first | (with_reducible first | exact HB.out | apply below_alloc | apply pw_below_drewN | apply below_drew1) | exact HB.out)⟩
                 ·
                  rw [if_neg c40] at H
                  have c40b0 : decide (x11_3 < t383) = false := decide_eq_false c40
                  clear c40
                  by_cases c41 : x12_3 ≥ (x5_1.length : Int)
                  ·
                   rw [if_pos c41] at H
                   have c41b0 : decide ((x5_1.length : Int) ≤ x12_3) = true := decide_eq_true c41
                   clear c41
                   by_cases c42 : t383 = x11_3
                   ·
                    rw [if_pos c42] at H
                    have c42b0 : (t383 == x11_3) = true := beq_iff_eq.mpr c42
                    have c42b1 : (t383 != x11_3) = false := bne_eq_false_iff_eq.mpr c42
                    clear c42
                    have H' := Aside0.mk H
                    clear H
                    go_wp2
                    go_roundg kj23
                    case measure => have := HK1.out; have := HK2.out; have := HK3.out; have := HJ23.out; omega
                    case rel => exact ⟨(t383), (wrap64 (x12_3 + 1)), (by first | rfl | (simp; done) | (simp [*]; done)), (by first | rfl | (simp; done) | (simp [*]; done)), H', ⟨by have := HK1.out; have := HK2.out; have := HK3.out; have := HJ23.out; omega⟩, ⟨by (try simp only [hl5_1]); (with_reducible repeat (first | apply Kd.R_alloc | apply Kd.R_drewN | apply Kd.R_drew)); exact HO_5.out⟩, ⟨by (try simp only [hl5_1]); (with_reducible repeat (first | apply Kd.R_alloc | apply Kd.R_drewN | apply Kd.R_drew)); exact HO_6.out⟩, ⟨by (try simp only [hl5_1]); (with_reducible repeat (first | apply Kd.R_alloc | apply Kd.R_drewN | apply Kd.R_drew)); exact HO_7.out⟩, ⟨by repeat (first | (with_reducible first | exact HB.out | apply below_alloc | apply pw_below_drewN | apply below_drew1) | exact HB.out)⟩⟩
                   ·
                    rw [if_neg c42] at H
                    have c42b0 : (t383 == x11_3) = false := beq_eq_false_iff_ne.mpr c42
                    have c42b1 : (t383 != x11_3) = true := bne_iff_ne.mpr c42
                    obtain rfl := Option.some.inj H
                    go_wp2
                    go_ret
                    exact ⟨by first | rfl | (simp [errW_none, errW_some] <;> rfl) | (simp [*, errW_none, errW_some] <;> rfl), by repeat (first | (with_reducible first | exact HB.out | apply below_alloc | apply pw_below_drewN | apply below_drew1) | exact HB.out)⟩
                  ·
                   rw [if_neg c41] at H
                   have c41b0 : decide ((x5_1.length : Int) ≤ x12_3) = false := decide_eq_false c41
                   clear c41
                   have H' := Aside0.mk H
                   clear H
                   go_wp2
                   go_roundg kj23
                   case measure => have := HK1.out; have := HK2.out; have := HK3.out; have := HJ23.out; omega
                   case rel => exact ⟨(t383), (wrap64 (x12_3 + 1)), (by first | rfl | (simp; done) | (simp [*]; done)), (by first | rfl | (simp; done) | (simp [*]; done)), H', ⟨by have := HK1.out; have := HK2.out; have := HK3.out; have := HJ23.out; omega⟩, ⟨by (try simp only [hl5_1]); (with_reducible repeat (first | apply Kd.R_alloc | apply Kd.R_drewN | apply Kd.R_drew)); exact HO_5.out⟩, ⟨by (try simp only [hl5_1]); (with_reducible repeat (first | apply Kd.R_alloc | apply Kd.R_drewN | apply Kd.R_drew)); exact HO_6.out⟩, ⟨by (try simp only [hl5_1]); (with_reducible repeat (first | apply Kd.R_alloc | apply Kd.R_drewN | apply Kd.R_drew)); exact HO_7.out⟩, ⟨by repeat (first | (with_reducible first | exact HB.out | apply below_alloc | apply pw_below_drewN | apply below_drew1) | exact HB.out)⟩⟩
                ·
                 rw [if_neg c39] at H
                 have c39b0 : decide (0 ≤ x11_3) = false := decide_eq_false c39
                 clear c39
                 have H' := Aside0.mk H
                 clear H
                 go_wp2
                 go_roundg kj23
                 case measure => have := HK1.out; have := HK2.out; have := HK3.out; have := HJ23.out; omega
                 case rel => exact ⟨(t383), (wrap64 (x12_3 + 1)), (by first | rfl | (simp; done) | (simp [*]; done)), (by first | rfl | (simp; done) | (simp [*]; done)), H', ⟨by have := HK1.out; have := HK2.out; have := HK3.out; have := HJ23.out; omega⟩, ⟨by (try simp only [hl5_1]); (with_reducible repeat (first | apply Kd.R_alloc | apply Kd.R_drewN | apply Kd.R_drew)); exact HO_5.out⟩, ⟨by (try simp only [hl5_1]); (with_reducible repeat (first | apply Kd.R_alloc | apply Kd.R_drewN | apply Kd.R_drew)); exact HO_6.out⟩, ⟨by (try simp only [hl5_1]); (with_reducible repeat (first | apply Kd.R_alloc | apply Kd.R_drewN | apply Kd.R_drew)); exact HO_7.out⟩, ⟨by repeat (first | (with_reducible first | exact HB.out | apply below_alloc | apply pw_below_drewN | apply below_drew1) | exact HB.out)⟩⟩
               ·
                rw [if_neg c38] at H
                have c38b0 : (t393 == (wrap64 ((wrap64 (1 + t369)) * t383))) = false := beq_eq_false_iff_ne.mpr c38
                have c38b1 : (t393 != (wrap64 ((wrap64 (1 + t369)) * t383))) = true := bne_iff_ne.mpr c38
                obtain rfl := Option.some.inj H
                go_wp2
                go_ret
                exact ⟨by first | rfl | (simp [errW_none, errW_some] <;> rfl) | (simp [*, errW_none, errW_some] <;> rfl), by repeat (first | (with_reducible first | exact HB.out | apply below_alloc | apply pw_below_drewN | apply below_drew1) | exact HB.out)⟩
              ·
               rw [if_neg c37] at H
               have c37b0 : (t388 == t383) = false := beq_eq_false_iff_ne.mpr c37
               have c37b1 : (t388 != t383) = true := bne_iff_ne.mpr c37
               obtain rfl := Option.some.inj H
               go_wp2
               go_ret
               exact ⟨by first | rfl | (simp [errW_none, errW_some] <;> rfl) | (simp [*, errW_none, errW_some] <;> rfl), by repeat (first | (with_reducible first | exact HB.out | apply below_alloc | apply pw_below_drewN | apply below_drew1) | exact HB.out)⟩
             ·
              rw [if_neg c36] at H
              have c36b0 : (t384 == 0) = false := beq_eq_false_iff_ne.mpr c36
              have c36b1 : (t384 != 0) = true := bne_iff_ne.mpr c36
              have H' := Aside0.mk H
              clear H
              go_wp2
              go_roundg kj23
              case measure => have := HK1.out; have := HK2.out; have := HK3.out; have := HJ23.out; omega
              case rel => exact ⟨(x11_3), (wrap64 (x12_3 + 1)), (by first | rfl | (simp; done) | (simp [*]; done)), (by first | rfl | (simp; done) | (simp [*]; done)), H', ⟨by have := HK1.out; have := HK2.out; have := HK3.out; have := HJ23.out; omega⟩, ⟨by (try simp only [hl5_1]); (with_reducible repeat (first | apply Kd.R_alloc | apply Kd.R_drewN | apply Kd.R_drew)); exact HO_5.out⟩, ⟨by (try simp only [hl5_1]); (with_reducible repeat (first | apply Kd.R_alloc | apply Kd.R_drewN | apply Kd.R_drew)); exact HO_6.out⟩, ⟨by (try simp only [hl5_1]); (with_reducible repeat (first | apply Kd.R_alloc | apply Kd.R_drewN | apply Kd.R_drew)); exact HO_7.out⟩, ⟨by repeat (first | (with_reducible first | exact HB.out | apply below_alloc | apply pw_below_drewN | apply below_drew1) | exact HB.out)⟩⟩
         ·
          rw [if_neg c20] at H
          have c20b0 : decide (x12_3 ≤ 32) = false := decide_eq_false c20
          clear c20
          replace H := Option.bind_eq_some_iff.mp H
          obtain ⟨t381, A430, H⟩ := H
          replace H : (some t381) = some r := H
          have A43 := Aside0.mk A430
          clear A430
          obtain rfl := Option.some.inj H
          go_wp2_with (first | ((with_reducible refine gate_callee (f := 22) rfl ?_); refine goesL_ (some 144) rfl rfl Try.func22 (by kernel_rfl) rfl #[] rfl (by (try simp only [List.map_toArray, List.map_cons, List.map_nil]); first | done | rfl | (simp only [List.length_drop, List.length_take]; rfl)) ?_; (with_reducible refine (turndownlaw06_awake.calls k3  t381 _ A43.out).mono ?_); rintro e w44 ⟨rfl, hb⟩; refine ⟨_, rfl, ?_⟩; have n0_ := Aside0.mk (Kd.R_below (by (with_reducible repeat (first | apply Kd.R_alloc | apply Kd.R_drewN | apply Kd.R_drew)); exact HO_5.out) hb); have n1_ := Aside0.mk (Kd.R_below (by (with_reducible repeat (first | apply Kd.R_alloc | apply Kd.R_drewN | apply Kd.R_drew)); exact HO_6.out) hb); have n2_ := Aside0.mk (Kd.R_below (by (with_reducible repeat (first | apply Kd.R_alloc | apply Kd.R_drewN | apply Kd.R_drew)); exact HO_7.out) hb); have n3_ := Aside0.mk (below_step (by repeat (first | (with_reducible first | exact HB.out | apply below_alloc | apply pw_below_drewN | apply below_drew1) | exact HB.out)) hb); clear HO_5; clear HO_6; clear HO_7; clear HB; have HO_5 := n0_; have HO_6 := n1_; have HO_7 := n2_; have HB := n3_; clear n0_ n1_ n2_ n3_; (try clear hb); (try clear hb2); (try clear hk); (try clear hi)))
          go_ret
          exact ⟨by first | rfl | (simp [errW_none, errW_some] <;> rfl) | (simp [*, errW_none, errW_some] <;> rfl), by repeat (first | (with_reducible first | exact HB.out | apply below_alloc | apply pw_below_drewN | apply below_drew1) | exact HB.out)⟩
def turndownlaw06_CodeLimits.Pure : Prop := ∀ (l0 : List Int) (a1 : Int), l0.length ≤ maxLen → l0.length * 8 ≤ 140737488351232 → (∀ x ∈ l0, (Lit.int .i64 x).wf = true) → (Lit.int .i64 a1).wf = true → ∃ k, turndownlaw06_CodeLimits.f k l0 a1 = some true
theorem turndownlaw06_CodeLimits.walk (P : turndownlaw06_CodeLimits.Pure) (a0 : Option Addr) (len0 cap0 : Nat) (z0 : List Int) (a1 : Int) (w : World) (w0 : (a0 = none ∧ len0 = 0 ∧ cap0 = 0 ∧ z0 = []) ∨ ∃ x, a0 = some x ∧ len0 ≤ cap0 ∧ cap0 ≤ maxLen ∧ z0.length = cap0 ∧ (∀ i, i < z0.length → w.cell? (x.add i) = some (.int .i64 (z0.getD i 0))) ∧ ∀ n ∈ z0, (Lit.int .i64 n).wf = true) (y0 : len0 * 8 ≤ 140737488351232) (w1 : (Lit.int .i64 a1).wf = true) :
  Calls Try.prog 9 #[.slice a0 len0 cap0, .int .i64 a1] w fun e w' => e = .returned (.bool true) ∧ Below w.heap.size w w' := by
 obtain ⟨l0, rfl, hr0, hm0, hw0, hc0⟩ := ReadsInt.ofRowC w0
 obtain ⟨k, h⟩ := P l0 a1 hm0 y0 hw0 w1
 refine (turndownlaw06_CodeLimits.calls k _ _ l0 a1 true w (Kd.C_of_reads (d := (0 : Int)) (h1 := fun _ => rfl) hr0) hc0 h).mono ?_
 rintro e w' ⟨rfl, hd⟩
 exact ⟨rfl, hd⟩
end Go.Proofs.Ytcpojohpmcnnhaa.PA

set_option linter.unusedVariables false
set_option linter.unusedSimpArgs false
namespace Go.Proofs.Ytcpojohpmcnnhaa.Pure
open Go.RowKit Go.Proofs.Ytcpojohpmcnnhaa.PA Go.Proofs.YtcpojohpmcnnhaaW.PrintWords Go.Proofs.YtcpojohpmcnnhaaW.PrintLast Go.Proofs.Ytcpojohpmcnnhaa.L Go.Proofs.Ytcpojohpmcnnhaa.K
def modW (w : List Int) : List Int := w.map (fun x => modI x 1000001)
theorem modW_getD (w : List Int) {s : Nat} (hs : s < w.length) : (modW w).getD s 0 = modI (w.getD s 0) 1000001 := by
  unfold modW
  simp [List.getD_eq_getElem?_getD, hs]
theorem best_yes {w : List Int} (h1 : 1 ≤ w.length) (h64 : w.length ≤ 64) (hw : ∀ x, x ∈ w → 0 ≤ x ∧ x ≤ 1073741824) {L : Nat} (hL : L ≤ 32) : ∃ l c, bestR w (L : Int) = (l, c, if w.length ≤ 2 ^ L then 0 else 6) ∧ (w.length ≤ 2 ^ L → Opt w L c) := by
  unfold bestR
  rw [if_pos ⟨by rw [lenB_iff.2 (by omega), okB_iff.2 hw]; rfl, by omega, by omega⟩, Int.toNat_natCast]
  by_cases h : w.length ≤ 2 ^ L
  · have hB := lensB_ok h1 h64 hw hL h
    rw [if_pos h, if_pos h]
    exact ⟨_, _, rfl, fun _ => by rw [hB.cost]; exact hB.opt⟩
  · rw [if_neg h, if_neg h]
    exact ⟨_, _, rfl, fun h' => absurd h' h⟩
theorem limits_l2 {w b m : List Int} {k : Int} (hk : 1 ≤ k ∧ k ≤ 9) (h1 : 1 ≤ w.length) (h20 : w.length ≤ 20) (hw : ∀ x, x ∈ w → 0 ≤ x ∧ x ≤ 1000000) (hb : b = w.reverse) (hm : m = w.map (k * ·)) :
    ∀ e L (last : Int), L + e = 33 → (last = -1 ∨ (1 ≤ L ∧ Opt w (L - 1) last)) → Ev (fun n => turndownlaw06_CodeLimits.l2 n w b m k last (L : Int)) true := by
  have hw' : ∀ x, x ∈ w → 0 ≤ x ∧ x ≤ 1073741824 := fun x hx => by have := hw x hx; omega
  have hb' : ∀ x, x ∈ b → 0 ≤ x ∧ x ≤ 1073741824 := fun x hx => hw' x (by rw [hb] at hx; exact List.mem_reverse.1 hx)
  have hm' : ∀ x, x ∈ m → 0 ≤ x ∧ x ≤ 1073741824 := fun x hx => by
    rw [hm] at hx
    obtain ⟨y, hy, rfl⟩ := List.mem_map.1 hx
    have := hw y hy
    have a1 : 0 ≤ k * y := Int.mul_nonneg (by omega) this.1
    have a2 : k * y ≤ 9 * 1000000 := Int.le_trans (Int.mul_le_mul_of_nonneg_right hk.2 this.1) (Int.mul_le_mul_of_nonneg_left this.2 (by omega))
    omega
  have hbl : b.length = w.length := by rw [hb]; simp
  have hml : m.length = w.length := by rw [hm]; simp
  intro e
  induction e with
  | zero =>
    intro L last hL _
    refine Ev.step (fun n => ?_) (Ev.bind (f := fun _ t => some t) awake_ev (Ev.now _))
    rw [turndownlaw06_CodeLimits.l2, if_neg (by omega)]
  | succ e ih =>
    intro L last hL hlast
    obtain ⟨l1, c1, r1, o1⟩ := best_yes h1 (by omega) hw' (L := L) (by omega)
    obtain ⟨l2, c2, r2, o2⟩ := best_yes (w := b) (by omega) (by omega) hb' (L := L) (by omega)
    obtain ⟨l3, c3, r3, o3⟩ := best_yes (w := m) (by omega) (by omega) hm' (L := L) (by omega)
    rw [hbl] at r2 o2
    rw [hml] at r3 o3
    have e1 := best_ev w (L : Int) (by omega)
    have e2 := best_ev b (L : Int) (by omega)
    have e3 := best_ev m (L : Int) (by omega)
    rw [r1] at e1
    rw [r2] at e2
    rw [r3] at e3
    have hflag : ∀ n, (if (L : Int) > 5 then (turndownlaw06_CodeLimits.j3 n w b m k last (L : Int) c1 (if w.length ≤ 2 ^ L then 0 else 6) c2 c3 (((if w.length ≤ 2 ^ L then (0 : Int) else 6) == 0) != true)) else (if 0 ≤ (L : Int) then (turndownlaw06_CodeLimits.j3 n w b m k last (L : Int) c1 (if w.length ≤ 2 ^ L then 0 else 6) c2 c3 (((if w.length ≤ 2 ^ L then (0 : Int) else 6) == 0) != (decide ((w.length : Int) ≤ (shl .i64 1 (L : Int)))))) else (none))) = turndownlaw06_CodeLimits.j3 n w b m k last (L : Int) c1 (if w.length ≤ 2 ^ L then 0 else 6) c2 c3 false := by
      intro n
      by_cases h5 : (L : Int) > 5
      · have hp : (2 : Nat) ^ 6 ≤ 2 ^ L := Nat.pow_le_pow_right (by omega) (by omega)
        rw [if_pos h5]
        simp only [if_pos (show w.length ≤ 2 ^ L by omega)]
        rfl
      · rw [if_neg h5, if_pos (by omega)]
        have hp : shl .i64 1 (L : Int) = ((2 ^ L : Nat) : Int) := by
          rw [shl_one (by omega) (by omega), Int.toNat_natCast]
          push_cast; rfl
        rw [hp]
        by_cases hc : w.length ≤ 2 ^ L
        · simp only [if_pos hc, decide_eq_true (show (w.length : Int) ≤ ((2 ^ L : Nat) : Int) by omega)]
          rfl
        · simp only [if_neg hc, decide_eq_false (show ¬ (w.length : Int) ≤ ((2 ^ L : Nat) : Int) by omega)]
          rfl
    have hj : Ev (fun n => turndownlaw06_CodeLimits.j3 n w b m k last (L : Int) c1 (if w.length ≤ 2 ^ L then 0 else 6) c2 c3 false) true := by
      have hw1 : wrap64 ((L : Int) + 1) = ((L + 1 : Nat) : Int) := w1 (by omega)
      by_cases hc : w.length ≤ 2 ^ L
      · have O1 := o1 hc
        have O2 := o2 hc
        have O3 := o3 hc
        rw [hb] at O2
        rw [hm] at O3
        have q1 : c2 = c1 := opt_unique (opt_perm (List.reverse_perm w) O2) O1
        have q2 : c3 = k * c1 := opt_unique O3 (opt_scale k hk.1 O1)
        have hc0 : 0 ≤ c1 ∧ c1 ≤ 1000000000000 := by
          obtain ⟨ps, p1, p2, rfl⟩ := O1.some
          have hb2 : ∀ qs : WL, (∀ p, p ∈ qs → (0 ≤ p.1 ∧ p.1 ≤ 1000000) ∧ p.2 ≤ 32) → 0 ≤ costP qs ∧ costP qs ≤ 32000000 * (qs.length : Int) := by
            intro qs
            induction qs with
            | nil => intro _; simp [costP]
            | cons p qs ihq =>
              intro h
              have h2 := ihq (fun q hq => h q (by simp [hq]))
              obtain ⟨⟨h3, h4⟩, h5⟩ := h p (by simp)
              have h6 : p.1 * (p.2 : Int) ≤ 1000000 * 32 := Int.le_trans (Int.mul_le_mul_of_nonneg_right h4 (by omega)) (Int.mul_le_mul_of_nonneg_left (by omega) (by omega))
              have h7 : 0 ≤ p.1 * (p.2 : Int) := Int.mul_nonneg h3 (by omega)
              rw [costP_cons, List.length_cons]
              push_cast
              omega
          have := hb2 ps (fun p hp => ⟨hw _ (p1.subset (List.mem_map.2 ⟨p, hp, rfl⟩)), Nat.le_trans (p2.le p hp) (by omega)⟩)
          rw [for_length p1] at this
          omega
        have q3 : wrap64 (k * c1) = k * c1 := by
          have a1 : 0 ≤ k * c1 := Int.mul_nonneg (by omega) hc0.1
          have a2 : k * c1 ≤ 9 * 1000000000000 := Int.le_trans (Int.mul_le_mul_of_nonneg_right hk.2 hc0.1) (Int.mul_le_mul_of_nonneg_left hc0.2 (by omega))
          generalize k * c1 = x at *
          unfold wrap64; omega
        have hnext : Ev (fun n => turndownlaw06_CodeLimits.l2 n w b m k c1 ((L + 1 : Nat) : Int)) true := ih (L + 1) c1 (by omega) (.inr ⟨by omega, by rw [Nat.add_sub_cancel]; exact O1⟩)
        refine Ev.step (fun n => ?_) hnext
        rw [turndownlaw06_CodeLimits.j3, if_neg (by simp), if_pos hc, if_pos rfl, if_pos q1, q2, q3, if_pos rfl, hw1]
        rcases hlast with rfl | ⟨hL1, hO⟩
        · rw [if_neg (by omega)]
        · have hle := opt_mono hO O1 (by omega)
          by_cases h0 : last ≥ 0
          · rw [if_pos h0, if_neg (by omega)]
            by_cases hge : (L : Int) ≥ (w.length : Int)
            · have hst := opt_stable (fun x hx => (hw x hx).1) h1 hO O1 (by omega) (by omega)
              rw [if_pos hge, if_pos hst.symm]
            · rw [if_neg hge]
          · rw [if_neg h0]
      · have hlast1 : last = -1 := by
          rcases hlast with h | ⟨hL1, hO⟩
          · exact h
          · exfalso
            obtain ⟨ps, p1, p2, _⟩ := hO.some
            have h3 := fits_up p2 (show L - 1 ≤ L by omega)
            have h4 : ∀ qs : WL, qs.length ≤ kraft L qs := by
              intro qs
              induction qs with
              | nil => simp [kraft]
              | cons q qs ihq =>
                rw [kraft_cons, List.length_cons]
                have := Nat.two_pow_pos (L - q.2)
                omega
            have h5 := h4 ps
            have h6 := h3.kr
            rw [for_length p1] at h5
            omega
        have hnext := ih (L + 1) last (by omega) (.inl hlast1)
        refine Ev.step (fun n => ?_) hnext
        rw [turndownlaw06_CodeLimits.j3, if_neg (by simp), if_neg hc, if_neg (by omega), hw1]
    refine Ev.step (fun n => ?_) (Ev.bind (f := fun n (bt382 : List Int × Int × Int) => ((code_Best.f n b (L : Int)).bind fun bt387 => ((code_Best.f n m (L : Int)).bind fun bt392 => (if bt382.2.2 = bt387.2.2 then (if bt382.2.2 = bt392.2.2 then (if (L : Int) > 5 then (turndownlaw06_CodeLimits.j3 n w b m k last (L : Int) bt382.2.1 bt382.2.2 bt387.2.1 bt392.2.1 ((bt382.2.2 == 0) != true)) else (if 0 ≤ (L : Int) then (turndownlaw06_CodeLimits.j3 n w b m k last (L : Int) bt382.2.1 bt382.2.2 bt387.2.1 bt392.2.1 ((bt382.2.2 == 0) != (decide ((w.length : Int) ≤ (shl .i64 1 (L : Int)))))) else (none))) else (turndownlaw06_CodeLimits.j3 n w b m k last (L : Int) bt382.2.1 bt382.2.2 bt387.2.1 bt392.2.1 true)) else (turndownlaw06_CodeLimits.j3 n w b m k last (L : Int) bt382.2.1 bt382.2.2 bt387.2.1 bt392.2.1 true))))) e1 ?_)
    · rw [turndownlaw06_CodeLimits.l2, if_pos (by omega)]
    · refine Ev.bind e2 (Ev.bind e3 ?_)
      simp only [if_true]
      exact Ev.congr hflag hj
theorem limits_l1 {w b : List Int} {k : Int} (hk : 1 ≤ k ∧ k ≤ 9) (h20 : w.length ≤ 20) (hw : ∀ x, x ∈ w → 0 ≤ x ∧ x ≤ 1000000)
    (h : Ev (fun n => turndownlaw06_CodeLimits.l2 n w b (w.map (k * ·)) k (-1) 0) true) : ∀ e q (m : List Int), q + e = w.length → m = (w.take q).map (k * ·) → Ev (fun n => turndownlaw06_CodeLimits.l1 n w b m k (q : Int)) true := by
  intro e
  induction e with
  | zero =>
    intro q m hq hm
    rw [List.take_of_length_le (by omega)] at hm
    subst hm
    refine Ev.step (fun n => ?_) h
    rw [turndownlaw06_CodeLimits.l1, if_neg (by omega)]
  | succ e ih =>
    intro q m hq hm
    have hql : q < w.length := by omega
    have hx := hw _ (getD_mem hql)
    have hwr : wrap64 (k * w.getD q 0) = k * w.getD q 0 := by
      have a1 : 0 ≤ k * w.getD q 0 := Int.mul_nonneg (by omega) hx.1
      have a2 : k * w.getD q 0 ≤ 9 * 1000000 := Int.le_trans (Int.mul_le_mul_of_nonneg_right hk.2 hx.1) (Int.mul_le_mul_of_nonneg_left hx.2 (by omega))
      generalize k * w.getD q 0 = y at *
      unfold wrap64; omega
    have hml : m.length = q := by rw [hm]; simp; omega
    refine Ev.step (fun n => ?_) (ih (q + 1) (m ++ [k * w.getD q 0]) (by omega) ?_)
    · rw [turndownlaw06_CodeLimits.l1, if_pos (by omega), if_pos (by omega), if_pos (by omega), rd_nat, hwr, w1 (by omega)]
    · rw [List.take_succ_eq_append_getElem hql, List.map_append, hm]
      congr 1
      rw [List.getD_eq_getElem?_getD, List.getElem?_eq_getElem hql]; rfl
theorem limits_l0 {w : List Int} {k : Int} (h20 : w.length ≤ 20) (h : Ev (fun n => turndownlaw06_CodeLimits.l1 n (modW w) (modW w).reverse [] k 0) true) :
    ∀ i, i ≤ w.length → Ev (fun n => turndownlaw06_CodeLimits.l0 n (w.take i ++ (modW w).drop i) ((modW w).drop i).reverse k ((i : Int) - 1)) true := by
  have hml : (modW w).length = w.length := by simp [modW]
  intro i
  induction i with
  | zero =>
    intro _
    refine Ev.step (fun n => ?_) h
    rw [turndownlaw06_CodeLimits.l0, if_neg (by omega), List.take_zero, List.drop_zero, List.nil_append]
  | succ i ih =>
    intro hi
    have hil : i < w.length := by omega
    have e0 : ((i + 1 : Nat) : Int) - 1 = (i : Int) := by omega
    have hlen : (w.take (i + 1) ++ (modW w).drop (i + 1)).length = w.length := by simp [hml]; omega
    have hget : (w.take (i + 1) ++ (modW w).drop (i + 1)).getD i 0 = w.getD i 0 := by
      rw [List.getD_eq_getElem?_getD, List.getElem?_append_left (by simp; omega), List.getElem?_take_of_lt (by omega), List.getD_eq_getElem?_getD]
    have hset : (w.take (i + 1) ++ (modW w).drop (i + 1)).set i (modI (w.getD i 0) 1000001) = w.take i ++ (modW w).drop i := by
      rw [drop_cons (show i < (modW w).length by omega) 0, modW_getD w hil, List.take_succ_eq_append_getElem hil, List.append_assoc, List.set_append, if_neg (by rw [List.length_take]; omega), List.length_take, Nat.min_eq_left (by omega), Nat.sub_self]
      rfl
    have hget2 : (w.take i ++ (modW w).drop i).getD i 0 = modI (w.getD i 0) 1000001 := by
      rw [drop_cons (show i < (modW w).length by omega) 0, modW_getD w hil, List.getD_eq_getElem?_getD, List.getElem?_append_right (by rw [List.length_take]; omega), List.length_take, Nat.min_eq_left (by omega), Nat.sub_self]
      rfl
    have hrev : ((modW w).drop (i + 1)).reverse ++ [modI (w.getD i 0) 1000001] = ((modW w).drop i).reverse := by
      rw [drop_cons (show i < (modW w).length by omega) 0, modW_getD w hil, List.reverse_cons]
    have hwi : wrap64 ((i : Int) - 1) = (i : Int) - 1 := by unfold wrap64; omega
    rw [e0]
    refine Ev.step (fun n => ?_) (ih (by omega))
    rw [turndownlaw06_CodeLimits.l0, if_pos (by omega), if_pos (by omega), if_pos (by rw [hlen]; omega), rd_nat, hget, mod_all _ (by omega) (by omega)]
    simp only [Option.bind_some, Int.toNat_natCast]
    rw [hset, if_pos (by simp [hml]; omega), rd_nat, hget2, hrev, hwi]
theorem CodeLimits : turndownlaw06_CodeLimits.Pure := by
  intro l0 a1 h1 h2 h3 h4
  obtain ⟨w, hw, hw1, hw20, hwx⟩ := tame_ev l0 (most := 20) (low := 0) (by omega) (by omega) (by omega) (by omega) (by omega)
  have hm := modI_bd a1 (n := 9) (by omega)
  have hwr : wrap64 (1 + modI a1 9) = 1 + modI a1 9 := by unfold wrap64; omega
  have hml : (modW w).length = w.length := by simp [modW]
  have hmx : ∀ x, x ∈ modW w → 0 ≤ x ∧ x ≤ 1000000 := fun x hx => by
    obtain ⟨y, _, rfl⟩ := List.mem_map.1 hx
    have := modI_bd y (n := 1000001) (by omega)
    omega
  have hk : 1 ≤ 1 + modI a1 9 ∧ 1 + modI a1 9 ≤ 9 := by omega
  have a2 := limits_l2 (w := modW w) hk (by omega) (by omega) hmx rfl rfl 33 0 (-1) (by omega) (.inl rfl)
  have a1' := limits_l1 (w := modW w) (b := (modW w).reverse) hk (by omega) hmx a2 (modW w).length 0 [] (by omega) (by simp)
  have a0 := limits_l0 (w := w) (k := 1 + modI a1 9) (by omega) a1' w.length (Nat.le_refl _)
  rw [List.take_length, List.drop_of_length_le (by omega), List.append_nil, List.reverse_nil] at a0
  refine Ev.rounds (Ev.congr (fun k => ?_) (Ev.bind (f := fun k (t366 : List Int) => ((turndownlaw06_mod.f a1 9).bind fun t369 => (turndownlaw06_CodeLimits.l0 k t366 ([] : List Int) (wrap64 (1 + t369)) (wrap64 ((t366.length : Int) - 1))))) hw ?_))
  · rfl
  · simp only [mod_all a1 (show (1 : Int) ≤ 9 by omega) (show (9 : Int) ≤ 1000000000000 by omega), Option.bind_some, hwr]
    have : wrap64 ((w.length : Int) - 1) = (w.length : Int) - 1 := by unfold wrap64; omega
    rw [this]
    exact a0
end Go.Proofs.Ytcpojohpmcnnhaa.Pure

namespace Go.Proofs.Ytcpojohpmcnnhaa.codeLimits
open Go.ChangeShapes Go.WideShapes Go.ChangeAt Go.RowKit
open Go.ChangeMaps (open_string shut_string)
set_option linter.unusedVariables false
theorem own : ownKnob Try.prog.godebug = none := by kernel_rfl
theorem laidOut : laidOutB Try.prog = true := by kernel_rfl
def IsRow (k : IntKind) (w : World) (a : Option Addr) (len cap : Nat) (zs : List Int) : Prop :=
 (a = none ∧ len = 0 ∧ cap = 0 ∧ zs = []) ∨
 ∃ x, a = some x ∧ len ≤ cap ∧ cap ≤ maxLen ∧ zs.length = cap ∧ (∀ i, i < zs.length → w.cell? (x.add i) = some (.int k (zs.getD i 0))) ∧ ∀ n ∈ zs, (Lit.int k n).wf = true
set_option maxRecDepth 100000 in
theorem lifted (os : Os) (started : os.Started) (H : Type) (enc : TypeId × Value → H) :
  ReturnsInHanded {} Try.checked os 9 .any (Rows.codeLimitsSpec.pre6 enc Try.prog Try.f9 Rows.codeLimitsRow.domain false) (Rows.codeLimitsSpec.post enc Try.prog Try.f9 false true false false) := by
 refine returnsInHanded_of_change_sized (C := Try.checked) own started (by kernel_rfl) Try.func9
  (ChangeSpec.witness6 (enc := enc) (C := Try.checked) false ⟨#[], #[.slice none 0 0, .int .i64 0], []⟩ 8 (by kernel_rfl) (by kernel_rfl) (by kernel_rfl) (by kernel_rfl)) ?_
 intro W base args ds gs before hval0 hW hcnd hsz0 _
 have hsz : (DataW.weightsEach Try.prog (Try.f9.params.toList ++ Rows.codeLimitsSpec.plain.varTypes Try.prog) (ds ++ gs)).all (· ≤ reachBytes) = true := hsz0
 have hval : ∀ (j : Nat) t v, Try.f9.params[j]? = some t → args[j]? = some v → Value.okWide Try.prog W .any base t v := hval0
 have hW' := hW
 obtain ⟨p, q, hA0, hV, rfl, hfz, hnd⟩ := hW
 have hA : DataW.TrodAll enc Try.prog W 0 (fun _ => true) true Try.f9.params.toList args.toList ds p := hA0
 rw [Try.params9] at hA hval hsz
 obtain ⟨v0, vs0, d0, ds0, p0, q0, hargs, rfl, rfl, h0, r0⟩ := trodAll_cons hA
 obtain ⟨v1, vs1, d1, ds1, p1, q1, rfl, rfl, rfl, h1, r1⟩ := trodAll_cons r0
 obtain ⟨rfl, rfl, rfl⟩ := trodAll_nil r1
 obtain rfl : args = #[v0, v1] := by cases args; simp_all
 obtain ⟨rfl, rfl⟩ := trodVars_none hV
 obtain ⟨a0, len0, cap0, rfl⟩ := okWide_slice Try.underlying22 (hval 0 22 v0 rfl rfl)
 have k0 := h0
 have lt0 : ∀ x ∈ p0, x.block < W.heap.size := by obtain ⟨m, hm⟩ := k0; exact DataW.trod_lt m _ _ _ hm
 obtain ⟨z0, w0⟩ : ∃ zs, IsRow .i64 W a0 len0 cap0 zs := by
  obtain ⟨fuel, hf⟩ := h0
  rcases open_ints Try.underlying22 Try.underlying3 (by kernel_rfl) hf with ⟨hcs, _⟩ | ⟨x, l, c, zs, hcs, _, hl, hm, hz, _, hcell, hwz⟩
  ·
   simp [Value.cells] at hcs
   obtain ⟨rfl, rfl, rfl⟩ := hcs
   exact ⟨[], .inl ⟨rfl, rfl, rfl, rfl⟩⟩
  ·
   simp [Value.cells] at hcs
   obtain ⟨rfl, rfl, rfl⟩ := hcs
   exact ⟨zs, .inr ⟨_, rfl, hl, hm, by simpa using hz, hcell, hwz⟩⟩
 have y0 : len0 * 8 ≤ 140737488351232 := Go.Proofs.YtcpojohpmcnnhaaW.PrintWords.sized_ints hsz (j := 0) (t := 22) rfl rfl Try.underlying22 Try.underlying3 (by kernel_rfl) (by kernel_rfl) h0
 obtain ⟨a1, rfl, rfl, rfl, w1⟩ := open_int Try.underlying3 (hval 1 3 v1 rfl rfl) h1
 clear hA0 hval0 hsz0 hsz
 refine (PA.turndownlaw06_CodeLimits.walk Pure.CodeLimits a0 len0 cap0 z0 a1 W w0 y0 w1).mono fun e W' ⟨he, bel⟩ => ?_
 subst he
 exact ⟨_, rfl, _, _, _, [], _, [], hW', trodAll_mk1 (shut_bool Try.underlying4 _), (trodAll_cons_mk (Below.trod laidOut (by kernel_rfl) (of_decide_eq_true (by kernel_rfl)) k0 bel lt0) (trodAll_cons_mk (shut_int Try.underlying3 w1) trodAll_mk0)), rfl, bel.frame _, fun h => by cases h⟩
theorem over : Rows.codeLimitsRow.holds Try.pinned (OpenSpec.ofChange Rows.codeLimitsSpec) :=
 OpenClaim.holds_of_wide 9 Try.f9 rfl rfl rfl rfl rfl rfl rfl ⟨rfl, rfl, rfl, rfl, rfl⟩ rfl rfl rfl rfl rfl (by kernel_rfl) Try.func9 (by kernel_rfl)
  (of_decide_eq_true (by kernel_rfl)) (by unfold Func.isWrapper; first | (rw [if_pos (by decide +kernel)]; kernel_rfl) | (rw [if_neg (by decide +kernel)]; exact ⟨rfl, rfl⟩))
  (fun os started H enc _ => lifted os started H enc)
theorem proved : Rows.CodeLimitsSaid := over
end Go.Proofs.Ytcpojohpmcnnhaa.codeLimits
namespace Go.Proofs.Ytcpojohpmcnnhaa
theorem codeLimits_holds : Rows.CodeLimitsSaid := codeLimits.proved
end Go.Proofs.Ytcpojohpmcnnhaa
