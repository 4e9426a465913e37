/- For all lists and limits the statement CodeFull holds: Go's function returns true and changes nothing that existed. -/
import Derived.SizedLaws
import Derived.ChangeSlices
import Derived.Test.YtcpojohpmcnnhaaRows
import Derived.WalkKit
import Derived.ProofKit
import Derived.OpenShut
import Derived.ShutString
import Derived.ChangeOld
import Derived.Below
import Derived.Test.YtcpojohpmcnnhaaZb9
set_option linter.unusedSimpArgs false
set_option linter.unusedVariables false

namespace Go.Proofs.YtcpojohpmcnnhaaW.PrintWords
open Go.ChangeShapes Go.WideShapes
theorem sized_ints {H : Type} {enc : TypeId × Value → H} {P : Program} {W : World} {base : Nat} {spare : Nat → Bool} {held : Bool} {t e : TypeId} {k : IntKind} {a : Option Addr} {len cap : Nat} {d : DataW H} {ps : List MemPlace} {ts : List TypeId} {ds : List (DataW H)} {j : Nat}
    (hsz : (DataW.weightsEach P ts ds).all (· ≤ reachBytes) = true) (ht : ts[j]? = some t) (hd : ds[j]? = some d) (hu : P.underlying t = some (.slice e)) (he : P.underlying e = some (.int k)) (hc : P.cellsOf e = 1) {B : Nat} (hB : P.bytesOf e = B)
    (h : DataW.Trod enc P W base spare held t (.slice a len cap) d ps) : len * B ≤ 140737488351232 := by
  obtain ⟨fuel, hf⟩ := h
  rcases open_ints hu he hc hf with ⟨hcs, _⟩ | ⟨x, l, c, zs, hcs, _, hl, _, hz, hx, _, _⟩
  · simp [Value.cells] at hcs
    obtain ⟨rfl, rfl, rfl⟩ := hcs
    simp
  · simp [Value.cells] at hcs
    obtain ⟨rfl, rfl, rfl⟩ := hcs
    obtain ⟨hx, _⟩ := Prod.mk.inj hx
    subst hx
    have z := sized_slice hsz ht hd hu
    rw [hB] at z
    have hl2 : len ≤ zs.length := by
      rw [hz]
      split
      · exact hl
      · exact Nat.le_refl _
    have h1 : (lits (H := H) k (zs.take len)).length + (lits (H := H) k (zs.drop len)).length = zs.length := by
      simp [lits]
      omega
    rw [h1] at z
    exact Nat.le_trans (Nat.mul_le_mul_right _ hl2) z
end Go.Proofs.YtcpojohpmcnnhaaW.PrintWords

namespace Go.Proofs.Ytcpojohpmcnnhaa.PA
open Go.RowKit Go.Proofs.YtcpojohpmcnnhaaW.PrintWords Go.Proofs.YtcpojohpmcnnhaaW.PrintLast Go.Proofs.YtcpojohpmcnnhaaW.PrintMore
attribute [local go_sem] max2_int min2_int max_two min_two max_three min_three max_four min_four
set_option linter.unusedVariables false
set_option linter.unusedSimpArgs false
def turndownlaw06_mod.f (a0 : Int) (a1 : Int) : Option (Int) := if (IntKind.u64.wrap (a1)) = 0 then (none) else (some (wrap64 (Int.tmod (IntKind.u64.wrap (a0)) (IntKind.u64.wrap (a1)))))
set_option maxHeartbeats 8000000 in
set_option maxRecDepth 100000 in
theorem turndownlaw06_mod.calls (a0 : Int) (a1 : Int) (r : Int) (w : World) (h : turndownlaw06_mod.f a0 a1 = some r) :
  Calls Try.prog 39 #[.int .i64 a0, .int .i64 a1] w fun e w' => e = .returned (.int .i64 r) ∧ Drawn0 w w' := by
 have H : (if (IntKind.u64.wrap (a1)) = 0 then (none) else (some (wrap64 (Int.tmod (IntKind.u64.wrap (a0)) (IntKind.u64.wrap (a1)))))) = some r := h
 clear h
 by_cases c3 : (IntKind.u64.wrap (a1)) = 0
 ·
  rw [if_pos c3] at H
  exact absurd H (by simp)
 ·
  rw [if_neg c3] at H
  have c3b0 : ((IntKind.u64.wrap (a1)) == 0) = false := beq_eq_false_iff_ne.mpr c3
  have c3b1 : ((IntKind.u64.wrap (a1)) != 0) = true := bne_iff_ne.mpr c3
  obtain rfl := Option.some.inj H
  go_enter Try.func39, Try.ntmps39
  go_wp2
  go_ret
  exact ⟨by first | rfl | (simp; done) | (simp [*]; done), by repeat (first | exact Drawn0.refl _ | apply Drawn0.step)⟩
end Go.Proofs.Ytcpojohpmcnnhaa.PA

namespace Go.Proofs.Ytcpojohpmcnnhaa.PA
open Go.RowKit Go.Proofs.YtcpojohpmcnnhaaW.PrintWords Go.Proofs.YtcpojohpmcnnhaaW.PrintLast Go.Proofs.YtcpojohpmcnnhaaW.PrintMore
attribute [local go_sem] max2_int min2_int max_two min_two max_three min_three max_four min_four
set_option linter.unusedVariables false
set_option linter.unusedSimpArgs false
mutual
def turndownlaw06_tame.l0 : Nat → List Int → Int → Int → List Int → Int → Option (List Int)
 | 0, _, _, _, _, _ => none
 | k + 1, x0, x1, x2, x7, x8 => if x8 < (x0.length : Int) then (turndownlaw06_tame.j1 k x0 x1 x2 x7 x8 (decide (x8 < x1))) else (turndownlaw06_tame.j1 k x0 x1 x2 x7 x8 false)
def turndownlaw06_tame.j1 : Nat → List Int → Int → Int → List Int → Int → Bool → Option (List Int)
 | 0, _, _, _, _, _, _ => none
 | k + 1, x0, x1, x2, x7, x8, x18 => if x18 = true then (if 0 ≤ x8 then (if x8 < (x0.length : Int) then (if (rd x0 x8) < x2 then ((turndownlaw06_mod.f (rd x0 x8) 1000).bind fun t324 => (if x7.length < 17592186044416 then (turndownlaw06_tame.l0 k x0 x1 x2 (x7 ++ [wrap64 (x2 + t324)]) (wrap64 (x8 + 1))) else (none))) else (if (rd x0 x8) > 1073741824 then ((turndownlaw06_mod.f (rd x0 x8) 1000).bind fun t328 => (if x7.length < 17592186044416 then (turndownlaw06_tame.l0 k x0 x1 x2 (x7 ++ [wrap64 (x2 + t328)]) (wrap64 (x8 + 1))) else (none))) else (if x7.length < 17592186044416 then (turndownlaw06_tame.l0 k x0 x1 x2 (x7 ++ [rd x0 x8]) (wrap64 (x8 + 1))) else (none)))) else (none)) else (none)) else (if (x7.length : Int) = 0 then (if x7.length < 17592186044416 then (some (x7 ++ [1])) else (none)) else (some x7))
end
def turndownlaw06_tame.f (k : Nat) (l0 : List Int) (a1 : Int) (a2 : Int) : Option (List Int) := turndownlaw06_tame.l0 k l0 a1 a2 ([] : List Int) 0
set_option maxHeartbeats 8000000 in
set_option maxRecDepth 100000 in
theorem turndownlaw06_tame.calls (k : Nat) (A0 : Option Addr) (c0 : Nat) (l0 : List Int) (a1 : Int) (a2 : Int) (r : List Int) (w : World) (hr0 : Kd.C (Kd.int .i64) w A0 l0.length l0) (hc0 : l0.length ≤ c0) (h : turndownlaw06_tame.f k l0 a1 a2 = some r) :
  Calls Try.prog 38 #[.slice A0 l0.length c0, .int .i64 a1, .int .i64 a2] w fun e w' => ∃ v0_ : Value, e = .returned (v0_) ∧ Kd.R (Kd.int .i64) 3 w' w.heap.size (fun _ => True) v0_ r ∧ Below w.heap.size w w' := by
 have HR0 := Aside0.mk hr0
 have HC0 := Aside0.mk hc0
 clear hr0 hc0
 have HB := Aside0.mk (Below.refl w.heap.size w)
 have H : (turndownlaw06_tame.l0 k l0 a1 a2 ([] : List Int) 0) = some r := h
 clear h
 have H' := Aside0.mk H
 clear H
 go_enter Try.func38, Try.ntmps38
 go_wp2
 go_loopg [7, 8] k (fun kq v7 v8 w' => ∃ (x7_1 : List Int) (x8_1 : Int), v8 = .int .i64 x8_1 ∧ Aside0 (turndownlaw06_tame.l0 kq l0 a1 a2 x7_1 x8_1 = some r) ∧ Aside0 (kq ≤ k) ∧ Aside0 (Kd.R (Kd.int .i64) 3 w' w.heap.size (fun _ => True) v7 x7_1) ∧ Aside0 (Below w.heap.size w w'))
 case atStart => exact ⟨(([] : List Int)), (0), (by first | rfl | (simp; done) | (simp [*]; done)), H', ⟨Nat.le_refl _⟩, ⟨by first | exact Kd.R_nil _ _ _ _ _ | exact Kd.N_nil _ _ _ _ _ | exact Kd.V_nil _ _ _ _ _ | exact Kd.Q_nil _ _ _ _ _ | exact Kd.S_nil _ _ _ _ _⟩, ⟨by repeat (first | (with_reducible first | exact HB.out | apply below_alloc | apply pw_below_drewN | apply below_drew1) | exact HB.out)⟩⟩
 case round =>
  clear H'
  try clear p2
  try clear c3
  obtain ⟨x7_1, x8_1, rfl, HA, HK1, HO_7, HB⟩ := hrel
  cases gk with
  | zero => exact absurd HA.out (by simp [turndownlaw06_tame.l0])
  | succ k1 =>
   have H := HA.out
   clear HA
   simp only [turndownlaw06_tame.l0] at H
   have HC4 := Aside0.mk H
   clear H
   go_upto_region 3 with (fail)
   go_cut [18] (fun v18 wc => ∃ (kq : Nat) (x18_3 : Bool), v18 = .bool x18_3 ∧ Aside0 (turndownlaw06_tame.j1 kq l0 a1 a2 x7_1 x8_1 x18_3 = some r) ∧ Aside0 (kq ≤ k1) ∧ Aside0 (Kd.R (Kd.int .i64) 3 wc w.heap.size (fun _ => True) u7 x7_1) ∧ Aside0 (Below w.heap.size w wc))
   case first =>
    have H := HC4.out
    clear HC4
    by_cases c5 : x8_1 < (l0.length : Int)
    ·
     rw [if_pos c5] at H
     have c5b0 : decide (x8_1 < (l0.length : Int)) = true := decide_eq_true c5
     clear c5
     (first | rw [c5b0] | (simp only [i64_w, i32_w]; rw [c5b0]) | skip)
     have H' := Aside0.mk H
     clear H
     go_wp2
     go_meet
     case rel => exact ⟨_, (decide (x8_1 < a1)), (by first | rfl | (simp; done) | (simp [*]; done)), H', ⟨by have := HK1.out; first | omega | exact Nat.le_refl _⟩, ⟨by (with_reducible repeat (first | apply Kd.R_alloc | apply Kd.R_drewN | apply Kd.R_drew)); exact HO_7.out⟩, ⟨by repeat (first | (with_reducible first | exact HB.out | apply below_alloc | apply pw_below_drewN | apply below_drew1) | exact HB.out)⟩⟩
    ·
     rw [if_neg c5] at H
     have c5b0 : decide (x8_1 < (l0.length : Int)) = false := decide_eq_false c5
     clear c5
     (first | rw [c5b0] | (simp only [i64_w, i32_w]; rw [c5b0]) | skip)
     have H' := Aside0.mk H
     clear H
     go_wp2
     go_meet
     case rel => exact ⟨_, (false), (by first | rfl | (simp; done) | (simp [*]; done)), H', ⟨by have := HK1.out; first | omega | exact Nat.le_refl _⟩, ⟨by (with_reducible repeat (first | apply Kd.R_alloc | apply Kd.R_drewN | apply Kd.R_drew)); exact HO_7.out⟩, ⟨by repeat (first | (with_reducible first | exact HB.out | apply below_alloc | apply pw_below_drewN | apply below_drew1) | exact HB.out)⟩⟩
   case rest =>
    clear HC4
    try clear p2
    try clear c3
    try clear c5
    try clear c5b0
    try clear p2
    obtain ⟨kq, x18_3, rfl, HA, HJ3, HO_7, HB⟩ := hcut
    cases kq with
    | zero => exact absurd HA.out (by simp [turndownlaw06_tame.j1])
    | succ kj3 =>
     have H := HA.out
     clear HA
     simp only [turndownlaw06_tame.j1] at H
     by_cases c6 : x18_3 = true
     ·
      subst c6
      have H1 : (if 0 ≤ x8_1 then (if x8_1 < (l0.length : Int) then (if (rd l0 x8_1) < a2 then ((turndownlaw06_mod.f (rd l0 x8_1) 1000).bind fun t324 => (if x7_1.length < 17592186044416 then (turndownlaw06_tame.l0 kj3 l0 a1 a2 (x7_1 ++ [wrap64 (a2 + t324)]) (wrap64 (x8_1 + 1))) else (none))) else (if (rd l0 x8_1) > 1073741824 then ((turndownlaw06_mod.f (rd l0 x8_1) 1000).bind fun t328 => (if x7_1.length < 17592186044416 then (turndownlaw06_tame.l0 kj3 l0 a1 a2 (x7_1 ++ [wrap64 (a2 + t328)]) (wrap64 (x8_1 + 1))) else (none))) else (if x7_1.length < 17592186044416 then (turndownlaw06_tame.l0 kj3 l0 a1 a2 (x7_1 ++ [rd l0 x8_1]) (wrap64 (x8_1 + 1))) else (none)))) else (none)) else (none)) = some r := by rw [if_pos rfl] at H; exact H
      clear H
      have H := H1
      clear H1
      by_cases c7 : 0 ≤ x8_1
      ·
       rw [if_pos c7] at H
       have c7b0 : decide (0 ≤ x8_1) = true := decide_eq_true c7
       clear c7
       by_cases c8 : x8_1 < (l0.length : Int)
       ·
        rw [if_pos c8] at H
        have c8b0 : decide (x8_1 < (l0.length : Int)) = true := decide_eq_true c8
        clear c8
        by_cases c9 : (rd l0 x8_1) < a2
        ·
         rw [if_pos c9] at H
         have c9b0 : decide ((rd l0 x8_1) < a2) = true := decide_eq_true c9
         clear c9
         replace H := Option.bind_eq_some_iff.mp H
         obtain ⟨t324, A100, H⟩ := H
         replace H : (if x7_1.length < 17592186044416 then (turndownlaw06_tame.l0 kj3 l0 a1 a2 (x7_1 ++ [wrap64 (a2 + t324)]) (wrap64 (x8_1 + 1))) else (none)) = some r := H
         have A10 := Aside0.mk A100
         clear A100
         by_cases c11 : x7_1.length < 17592186044416
         ·
          rw [if_pos c11] at H
          have LMc11 := Aside0.mk c11
          clear c11
          obtain ⟨y325, hy325⟩ : ∃ y_ : List Int, y_ = (x7_1 ++ [wrap64 (a2 + t324)]) := ⟨_, rfl⟩
          replace H : (turndownlaw06_tame.l0 kj3 l0 a1 a2 y325 (wrap64 (x8_1 + 1))) = some r := by first | (rw [hy325]; with_reducible exact H) | (have H2_ := (Option.bind_some _ _).symm.trans H; rw [hy325]; with_reducible exact H2_) | (have H2_ := (Option.bind_some _ _).symm.trans H; with_reducible exact H2_) | with_reducible exact H | (rw [hy325]; exact H) | exact H
          have Ny325 := Aside0.mk hy325
          clear hy325
          have H' := Aside0.mk H
          clear H
          have p323 : 0 ≤ (x8_1 : Int) := of_decide_eq_true (by first | (with_reducible assumption) | assumption)
          have q323 : x8_1 < (l0.length : Int) := of_decide_eq_true (by first | (with_reducible assumption) | assumption)
          obtain ⟨ad323, e323, hx323_0⟩ := Kd.at_int HR0.out x8_1 p323 q323
          cases e323
          replace hx323_0 := (HB.out.cell (World.block_lt_of_cell? w _ hx323_0)).trans hx323_0
          replace p323 := eq_true p323
          replace q323 := eq_true q323
          go_wp2_with (first | ((with_reducible refine gate_callee (f := 39) rfl ?_); refine goesL_ (some 34) rfl rfl Try.func39 (by kernel_rfl) rfl #[.int .i64 (rd l0 x8_1), .int .i64 1000] rfl (by (try simp only [List.map_toArray, List.map_cons, List.map_nil]); first | done | rfl | (simp only [List.length_drop, List.length_take]; rfl)) ?_; (with_reducible refine (turndownlaw06_mod.calls (rd l0 x8_1) 1000 t324 _ A10.out).mono ?_); rintro e w' ⟨rfl, ⟨nd, rfl⟩⟩; refine ⟨_, rfl, ?_⟩) | ((with_reducible refine gate_builtin (b := .append) (xs := #[.tmp 36, .tmp 38]) rfl ?_); at_builtin; refine Kd.R_append (Kd.int .i64) (w0 := w) w.heap.size rfl (.tmp 36) (.tmp 38) 22 3 (.int .i64 0) 8 rfl Try.underlying22 info3 rfl (by decide) (by omega) u7 x7_1 (wrap64 (a2 + t324)) [.int .i64 (wrap64 (a2 + t324))] (fun _ => True) (fun _ => False) rfl rfl ?aP (fun _ hk => hk.elim) ?aF ?aO ?aB ?aS ?aL ?_; (case aP => exact rfl); (case aB => exact (by repeat (first | (with_reducible first | exact HB.out | apply below_alloc | apply pw_below_drewN | apply below_drew1) | exact HB.out))); (case aF => exact (fun _ _ => trivial)); (case aO => exact (by (with_reducible repeat (first | apply Kd.R_alloc | apply Kd.R_drewN | apply Kd.R_drew)); exact HO_7.out)); (case aS => exact (below_size (by repeat (first | (with_reducible first | exact HB.out | apply below_alloc | apply pw_below_drewN | apply below_drew1) | exact HB.out)))); (case aL => have := LMc11.out; omega); intro v326 w12 ho hb hg hat; rw [← Ny325.out] at ho; have n0_ := Aside0.mk (hb); have n1_ := Aside0.mk (ho); clear HB; clear HO_7; have HB := n0_; have HO327 := n1_; clear n0_ n1_; clear ho hb hg hat))
          go_roundg kj3
          case measure => have := HK1.out; have := HJ3.out; omega
          case rel => exact ⟨(y325), (wrap64 (x8_1 + 1)), (by first | rfl | (simp; done) | (simp [*]; done)), H', ⟨by have := HK1.out; have := HJ3.out; omega⟩, ⟨by (with_reducible repeat (first | apply Kd.R_alloc | apply Kd.R_drewN | apply Kd.R_drew)); exact HO327.out⟩, ⟨by repeat (first | (with_reducible first | exact HB.out | apply below_alloc | apply pw_below_drewN | apply below_drew1) | exact HB.out)⟩⟩
         ·
          rw [if_neg c11] at H
          exact absurd H (by simp)
        ·
         rw [if_neg c9] at H
         have c9b0 : decide ((rd l0 x8_1) < a2) = false := decide_eq_false c9
         clear c9
         by_cases c13 : (rd l0 x8_1) > 1073741824
         ·
          rw [if_pos c13] at H
          have c13b0 : decide (1073741824 < (rd l0 x8_1)) = true := decide_eq_true c13
          clear c13
          replace H := Option.bind_eq_some_iff.mp H
          obtain ⟨t328, A140, H⟩ := H
          replace H : (if x7_1.length < 17592186044416 then (turndownlaw06_tame.l0 kj3 l0 a1 a2 (x7_1 ++ [wrap64 (a2 + t328)]) (wrap64 (x8_1 + 1))) else (none)) = some r := H
          have A14 := Aside0.mk A140
          clear A140
          by_cases c15 : x7_1.length < 17592186044416
          ·
           rw [if_pos c15] at H
           have LMc15 := Aside0.mk c15
           clear c15
           obtain ⟨y329, hy329⟩ : ∃ y_ : List Int, y_ = (x7_1 ++ [wrap64 (a2 + t328)]) := ⟨_, rfl⟩
           replace H : (turndownlaw06_tame.l0 kj3 l0 a1 a2 y329 (wrap64 (x8_1 + 1))) = some r := by first | (rw [hy329]; with_reducible exact H) | (have H2_ := (Option.bind_some _ _).symm.trans H; rw [hy329]; with_reducible exact H2_) | (have H2_ := (Option.bind_some _ _).symm.trans H; with_reducible exact H2_) | with_reducible exact H | (rw [hy329]; exact H) | exact H
           have Ny329 := Aside0.mk hy329
           clear hy329
           have H' := Aside0.mk H
           clear H
           have p323 : 0 ≤ (x8_1 : Int) := of_decide_eq_true (by first | (with_reducible assumption) | assumption)
           have q323 : x8_1 < (l0.length : Int) := of_decide_eq_true (by first | (with_reducible assumption) | assumption)
           obtain ⟨ad323, e323, hx323_0⟩ := Kd.at_int HR0.out x8_1 p323 q323
           cases e323
           replace hx323_0 := (HB.out.cell (World.block_lt_of_cell? w _ hx323_0)).trans hx323_0
           replace p323 := eq_true p323
           replace q323 := eq_true q323
           go_wp2_with (first | ((with_reducible refine gate_callee (f := 39) rfl ?_); refine goesL_ (some 34) rfl rfl Try.func39 (by kernel_rfl) rfl #[.int .i64 (rd l0 x8_1), .int .i64 1000] rfl (by (try simp only [List.map_toArray, List.map_cons, List.map_nil]); first | done | rfl | (simp only [List.length_drop, List.length_take]; rfl)) ?_; (with_reducible refine (turndownlaw06_mod.calls (rd l0 x8_1) 1000 t328 _ A14.out).mono ?_); rintro e w' ⟨rfl, ⟨nd, rfl⟩⟩; refine ⟨_, rfl, ?_⟩) | ((with_reducible refine gate_builtin (b := .append) (xs := #[.tmp 36, .tmp 38]) rfl ?_); at_builtin; refine Kd.R_append (Kd.int .i64) (w0 := w) w.heap.size rfl (.tmp 36) (.tmp 38) 22 3 (.int .i64 0) 8 rfl Try.underlying22 info3 rfl (by decide) (by omega) u7 x7_1 (wrap64 (a2 + t328)) [.int .i64 (wrap64 (a2 + t328))] (fun _ => True) (fun _ => False) rfl rfl ?aP (fun _ hk => hk.elim) ?aF ?aO ?aB ?aS ?aL ?_; (case aP => exact rfl); (case aB => exact (by repeat (first | (with_reducible first | exact HB.out | apply below_alloc | apply pw_below_drewN | apply below_drew1) | exact HB.out))); (case aF => exact (fun _ _ => trivial)); (case aO => exact (by (with_reducible repeat (first | apply Kd.R_alloc | apply Kd.R_drewN | apply Kd.R_drew)); exact HO_7.out)); (case aS => exact (below_size (by repeat (first | (with_reducible first | exact HB.out | apply below_alloc | apply pw_below_drewN | apply below_drew1) | exact HB.out)))); (case aL => have := LMc15.out; omega); intro v330 w16 ho hb hg hat; rw [← Ny329.out] at ho; have n0_ := Aside0.mk (hb); have n1_ := Aside0.mk (ho); clear HB; clear HO_7; have HB := n0_; have HO331 := n1_; clear n0_ n1_; clear ho hb hg hat))
           go_roundg kj3
           case measure => have := HK1.out; have := HJ3.out; omega
           case rel => exact ⟨(y329), (wrap64 (x8_1 + 1)), (by first | rfl | (simp; done) | (simp [*]; done)), H', ⟨by have := HK1.out; have := HJ3.out; omega⟩, ⟨by (with_reducible repeat (first | apply Kd.R_alloc | apply Kd.R_drewN | apply Kd.R_drew)); exact HO331.out⟩, ⟨by repeat (first | (with_reducible first | exact HB.out | apply below_alloc | apply pw_below_drewN | apply below_drew1) | exact HB.out)⟩⟩
          ·
           rw [if_neg c15] at H
           exact absurd H (by simp)
         ·
          rw [if_neg c13] at H
          have c13b0 : decide (1073741824 < (rd l0 x8_1)) = false := decide_eq_false c13
          clear c13
          by_cases c17 : x7_1.length < 17592186044416
          ·
           rw [if_pos c17] at H
           have LMc17 := Aside0.mk c17
           clear c17
           obtain ⟨y332, hy332⟩ : ∃ y_ : List Int, y_ = (x7_1 ++ [rd l0 x8_1]) := ⟨_, rfl⟩
           replace H : (turndownlaw06_tame.l0 kj3 l0 a1 a2 y332 (wrap64 (x8_1 + 1))) = some r := by first | (rw [hy332]; with_reducible exact H) | (have H2_ := (Option.bind_some _ _).symm.trans H; rw [hy332]; with_reducible exact H2_) | (have H2_ := (Option.bind_some _ _).symm.trans H; with_reducible exact H2_) | with_reducible exact H | (rw [hy332]; exact H) | exact H
           have Ny332 := Aside0.mk hy332
           clear hy332
           have H' := Aside0.mk H
           clear H
           have p323 : 0 ≤ (x8_1 : Int) := of_decide_eq_true (by first | (with_reducible assumption) | assumption)
           have q323 : x8_1 < (l0.length : Int) := of_decide_eq_true (by first | (with_reducible assumption) | assumption)
           obtain ⟨ad323, e323, hx323_0⟩ := Kd.at_int HR0.out x8_1 p323 q323
           cases e323
           replace hx323_0 := (HB.out.cell (World.block_lt_of_cell? w _ hx323_0)).trans hx323_0
           replace p323 := eq_true p323
           replace q323 := eq_true q323
           go_wp2_with (first | ((with_reducible refine gate_builtin (b := .append) (xs := #[.tmp 36, .tmp 38]) rfl ?_); at_builtin; refine Kd.R_append (Kd.int .i64) (w0 := w) w.heap.size rfl (.tmp 36) (.tmp 38) 22 3 (.int .i64 0) 8 rfl Try.underlying22 info3 rfl (by decide) (by omega) u7 x7_1 (rd l0 x8_1) [.int .i64 (rd l0 x8_1)] (fun _ => True) (fun _ => False) rfl rfl ?aP (fun _ hk => hk.elim) ?aF ?aO ?aB ?aS ?aL ?_; (case aP => exact rfl); (case aB => exact (by repeat (first | (with_reducible first | exact HB.out | apply below_alloc | apply pw_below_drewN | apply below_drew1) | exact HB.out))); (case aF => exact (fun _ _ => trivial)); (case aO => exact (by (with_reducible repeat (first | apply Kd.R_alloc | apply Kd.R_drewN | apply Kd.R_drew)); exact HO_7.out)); (case aS => exact (below_size (by repeat (first | (with_reducible first | exact HB.out | apply below_alloc | apply pw_below_drewN | apply below_drew1) | exact HB.out)))); (case aL => have := LMc17.out; omega); intro v333 w18 ho hb hg hat; rw [← Ny332.out] at ho; have n0_ := Aside0.mk (hb); have n1_ := Aside0.mk (ho); clear HB; clear HO_7; have HB := n0_; have HO334 := n1_; clear n0_ n1_; clear ho hb hg hat))
           go_roundg kj3
           case measure => have := HK1.out; have := HJ3.out; omega
           case rel => exact ⟨(y332), (wrap64 (x8_1 + 1)), (by first | rfl | (simp; done) | (simp [*]; done)), H', ⟨by have := HK1.out; have := HJ3.out; omega⟩, ⟨by (with_reducible repeat (first | apply Kd.R_alloc | apply Kd.R_drewN | apply Kd.R_drew)); exact HO334.out⟩, ⟨by repeat (first | (with_reducible first | exact HB.out | apply below_alloc | apply pw_below_drewN | apply below_drew1) | exact HB.out)⟩⟩
          ·
           rw [if_neg c17] at H
           exact absurd H (by simp)
       ·
        rw [if_neg c8] at H
        exact absurd H (by simp)
      ·
       rw [if_neg c7] at H
       exact absurd H (by simp)
     ·
      replace c6 := Bool.eq_false_iff.mpr c6
      subst c6
      have H1 : (if (x7_1.length : Int) = 0 then (if x7_1.length < 17592186044416 then (some (x7_1 ++ [1])) else (none)) else (some x7_1)) = some r := by rw [if_neg (show ¬ (false = true) by decide)] at H; exact H
      clear H
      have H := H1
      clear H1
      by_cases c19 : (x7_1.length : Int) = 0
      ·
       rw [if_pos c19] at H
       have c19b0 : ((x7_1.length : Int) == 0) = true := beq_iff_eq.mpr c19
       have c19b1 : ((x7_1.length : Int) != 0) = false := bne_eq_false_iff_eq.mpr c19
       clear c19
       by_cases c20 : x7_1.length < 17592186044416
       ·
        rw [if_pos c20] at H
        have LMc20 := Aside0.mk c20
        clear c20
        obtain ⟨y335, hy335⟩ : ∃ y_ : List Int, y_ = (x7_1 ++ [1]) := ⟨_, rfl⟩
        replace H : (some y335) = some r := by first | (rw [hy335]; with_reducible exact H) | (have H2_ := (Option.bind_some _ _).symm.trans H; rw [hy335]; with_reducible exact H2_) | (have H2_ := (Option.bind_some _ _).symm.trans H; with_reducible exact H2_) | with_reducible exact H | (rw [hy335]; exact H) | exact H
        have Ny335 := Aside0.mk hy335
        clear hy335
        obtain rfl := Option.some.inj H
        obtain ⟨Ao21, co21, eo21⟩ := Kd.R_slice HO_7.out
        subst eo21
        go_wp2_with (first | ((with_reducible refine gate_builtin (b := .append) (xs := #[.tmp 43, .tmp 44]) rfl ?_); at_builtin; refine Kd.R_append (Kd.int .i64) (w0 := w) w.heap.size rfl (.tmp 43) (.tmp 44) 22 3 (.int .i64 0) 8 rfl Try.underlying22 info3 rfl (by decide) (by omega) (.slice Ao21 x7_1.length co21) x7_1 1 [.int .i64 1] (fun _ => True) (fun _ => False) rfl rfl ?aP (fun _ hk => hk.elim) ?aF ?aO ?aB ?aS ?aL ?_; (case aP => exact rfl); (case aB => exact (by repeat (first | (with_reducible first | exact HB.out | apply below_alloc | apply pw_below_drewN | apply below_drew1) | exact HB.out))); (case aF => exact (fun _ _ => trivial)); (case aO => exact (by (with_reducible repeat (first | apply Kd.R_alloc | apply Kd.R_drewN | apply Kd.R_drew)); exact HO_7.out)); (case aS => exact (below_size (by repeat (first | (with_reducible first | exact HB.out | apply below_alloc | apply pw_below_drewN | apply below_drew1) | exact HB.out)))); (case aL => have := LMc20.out; omega); intro v336 w22 ho hb hg hat; rw [← Ny335.out] at ho; have n0_ := Aside0.mk (hb); have n1_ := Aside0.mk (ho); clear HB; clear HO_7; have HB := n0_; have HO337 := n1_; clear n0_ n1_; clear ho hb hg hat))
        go_ret
        exact ⟨_, by first | rfl | (simp [errW_none, errW_some] <;> rfl) | (simp [*, errW_none, errW_some] <;> rfl), by (with_reducible repeat (first | apply Kd.R_alloc | apply Kd.R_drewN | apply Kd.R_drew)); exact HO337.out, by repeat (first | (with_reducible first | exact HB.out | apply below_alloc | apply pw_below_drewN | apply below_drew1) | exact HB.out)⟩
       ·
        rw [if_neg c20] at H
        exact absurd H (by simp)
      ·
       rw [if_neg c19] at H
       have c19b0 : ((x7_1.length : Int) == 0) = false := beq_eq_false_iff_ne.mpr c19
       have c19b1 : ((x7_1.length : Int) != 0) = true := bne_iff_ne.mpr c19
       have c19b2 : ¬ (x7_1 = []) := fun h_ => c19 (by rw [h_]; rfl)
       obtain rfl := Option.some.inj H
       obtain ⟨Ao23, co23, eo23⟩ := Kd.R_slice HO_7.out
       subst eo23
       go_wp2
       go_ret
       exact ⟨_, by first | rfl | (simp [errW_none, errW_some] <;> rfl) | (simp [*, errW_none, errW_some] <;> rfl), by (with_reducible repeat (first | apply Kd.R_alloc | apply Kd.R_drewN | apply Kd.R_drew)); exact HO_7.out, by repeat (first | (with_reducible first | exact HB.out | apply below_alloc | apply pw_below_drewN | apply below_drew1) | exact HB.out)⟩
end Go.Proofs.Ytcpojohpmcnnhaa.PA

namespace Go.Proofs.Ytcpojohpmcnnhaa.PA
open Go.RowKit Go.Proofs.YtcpojohpmcnnhaaW.PrintWords Go.Proofs.YtcpojohpmcnnhaaW.PrintLast Go.Proofs.YtcpojohpmcnnhaaW.PrintMore
attribute [local go_sem] max2_int min2_int max_two min_two max_three min_three max_four min_four
set_option linter.unusedVariables false
set_option linter.unusedSimpArgs false
mutual
def turndownlaw06_CodeFull.j0 : Nat → Int → List Int → List Int → List Int → Int → Bool → Option (Bool)
 | 0, _, _, _, _, _, _ => none
 | k + 1, x1, x2, x7, x8, x9, x48 => if x48 = true then (some false) else (if (x7.length : Int) > 1 then ((turndownref06_Sum.f k x8).bind fun t349 => (turndownlaw06_CodeFull.j1 k x1 x2 x7 x8 x9 (t349 != 4294967296))) else (turndownlaw06_CodeFull.j1 k x1 x2 x7 x8 x9 false))
def turndownlaw06_CodeFull.j1 : Nat → Int → List Int → List Int → List Int → Int → Bool → Option (Bool)
 | 0, _, _, _, _, _, _ => none
 | k + 1, x1, x2, x7, x8, x9, x56 => if x56 = true then (some false) else (turndownlaw06_CodeFull.l0 k x1 x2 x7 x8 x9 0)
def turndownlaw06_CodeFull.l0 : Nat → Int → List Int → List Int → List Int → Int → Int → Option (Bool)
 | 0, _, _, _, _, _, _ => none
 | k + 1, x1, x2, x7, x8, x9, x11 => if x11 < (x8.length : Int) then (turndownlaw06_CodeFull.l1 k x1 x2 x7 x8 x9 x11 0) else (turndownlaw06_CodeFull.l2 k x1 x2 x7 x9 ([] : List Int) 0)
def turndownlaw06_CodeFull.l1 : Nat → Int → List Int → List Int → List Int → Int → Int → Int → Option (Bool)
 | 0, _, _, _, _, _, _, _ => none
 | k + 1, x1, x2, x7, x8, x9, x11, x12 => if x12 < (x8.length : Int) then (if 0 ≤ x11 then (if x11 < (x7.length : Int) then (if 0 ≤ x12 then (if x12 < (x7.length : Int) then (if (rd x7 x11) > (rd x7 x12) then (if x11 < (x8.length : Int) then (if (rd x8 x11) > (rd x8 x12) then (some false) else (turndownlaw06_CodeFull.l1 k x1 x2 x7 x8 x9 x11 (wrap64 (x12 + 1)))) else (none)) else (turndownlaw06_CodeFull.l1 k x1 x2 x7 x8 x9 x11 (wrap64 (x12 + 1)))) else (none)) else (none)) else (none)) else (none)) else (turndownlaw06_CodeFull.l0 k x1 x2 x7 x8 x9 (wrap64 (x11 + 1)))
def turndownlaw06_CodeFull.l2 : Nat → Int → List Int → List Int → Int → List Int → Int → Option (Bool)
 | 0, _, _, _, _, _, _ => none
 | k + 1, x1, x2, x7, x9, x13, x14 => if x14 < (x7.length : Int) then (if x14 < (x2.length : Int) then (if 0 ≤ x14 then ((turndownlaw06_mod.f (rd x2 x14) (wrap64 (x1 + 1))).bind fun t355 => (if x13.length < 17592186044416 then (turndownlaw06_CodeFull.l2 k x1 x2 x7 x9 (x13 ++ [t355]) (wrap64 (x14 + 1))) else (none))) else (none)) else (if x13.length < 17592186044416 then (turndownlaw06_CodeFull.l2 k x1 x2 x7 x9 (x13 ++ [x1]) (wrap64 (x14 + 1))) else (none))) else ((turndownref06_Possible.f k x13).bind fun t362 => (if t362 = true then ((turndownref06_Cost.f k x7 x13).bind fun t363 => (if t363 ≥ x9 then ((turndownlaw06_awake.f k).bind fun t364 => (some t364)) else (some false))) else ((turndownlaw06_awake.f k).bind fun t365 => (some t365))))
end
def turndownlaw06_CodeFull.f (k : Nat) (l0 : List Int) (a1 : Int) (l2 : List Int) : Option (Bool) := (turndownlaw06_tame.f k l0 30 1).bind fun t338 => ((turndownlaw06_mod.f a1 28).bind fun t341 => ((code_Best.f k t338 (wrap64 (5 + t341))).bind fun bt342 => (if bt342.2.2 = 0 then (if (bt342.1.length : Int) = (t338.length : Int) then ((turndownref06_Lengths.f k bt342.1).bind fun t347 => (if t347 = true then ((turndownref06_Cost.f k t338 bt342.1).bind fun t348 => (turndownlaw06_CodeFull.j0 k (wrap64 (5 + t341)) l2 t338 bt342.1 bt342.2.1 (t348 != bt342.2.1))) else (turndownlaw06_CodeFull.j0 k (wrap64 (5 + t341)) l2 t338 bt342.1 bt342.2.1 true))) else (turndownlaw06_CodeFull.j0 k (wrap64 (5 + t341)) l2 t338 bt342.1 bt342.2.1 true)) else (turndownlaw06_CodeFull.j0 k (wrap64 (5 + t341)) l2 t338 bt342.1 bt342.2.1 true))))
set_option maxHeartbeats 8000000 in
set_option maxRecDepth 100000 in
theorem turndownlaw06_CodeFull.calls (k : Nat) (A0 : Option Addr) (c0 : Nat) (l0 : List Int) (a1 : Int) (A2 : Option Addr) (c2 : Nat) (l2 : List Int) (r : Bool) (w : World) (hr0 : Kd.C (Kd.int .i64) w A0 l0.length l0) (hc0 : l0.length ≤ c0) (hr2 : Kd.C (Kd.int .i64) w A2 l2.length l2) (hc2 : l2.length ≤ c2) (h : turndownlaw06_CodeFull.f k l0 a1 l2 = some r) :
  Calls Try.prog 8 #[.slice A0 l0.length c0, .int .i64 a1, .slice A2 l2.length c2] w fun e w' => e = .returned (.bool r) ∧ Below w.heap.size w w' := by
 have HR0 := Aside0.mk hr0
 have HC0 := Aside0.mk hc0
 clear hr0 hc0
 have HR2 := Aside0.mk hr2
 have HC2 := Aside0.mk hc2
 clear hr2 hc2
 have HB := Aside0.mk (Below.refl w.heap.size w)
 have H : ((turndownlaw06_tame.f k l0 30 1).bind fun t338 => ((turndownlaw06_mod.f a1 28).bind fun t341 => ((code_Best.f k t338 (wrap64 (5 + t341))).bind fun bt342 => (if bt342.2.2 = 0 then (if (bt342.1.length : Int) = (t338.length : Int) then ((turndownref06_Lengths.f k bt342.1).bind fun t347 => (if t347 = true then ((turndownref06_Cost.f k t338 bt342.1).bind fun t348 => (turndownlaw06_CodeFull.j0 k (wrap64 (5 + t341)) l2 t338 bt342.1 bt342.2.1 (t348 != bt342.2.1))) else (turndownlaw06_CodeFull.j0 k (wrap64 (5 + t341)) l2 t338 bt342.1 bt342.2.1 true))) else (turndownlaw06_CodeFull.j0 k (wrap64 (5 + t341)) l2 t338 bt342.1 bt342.2.1 true)) else (turndownlaw06_CodeFull.j0 k (wrap64 (5 + t341)) l2 t338 bt342.1 bt342.2.1 true))))) = some r := h
 clear h
 replace H := Option.bind_eq_some_iff.mp H
 obtain ⟨t338, A40, H⟩ := H
 replace H : ((turndownlaw06_mod.f a1 28).bind fun t341 => ((code_Best.f k t338 (wrap64 (5 + t341))).bind fun bt342 => (if bt342.2.2 = 0 then (if (bt342.1.length : Int) = (t338.length : Int) then ((turndownref06_Lengths.f k bt342.1).bind fun t347 => (if t347 = true then ((turndownref06_Cost.f k t338 bt342.1).bind fun t348 => (turndownlaw06_CodeFull.j0 k (wrap64 (5 + t341)) l2 t338 bt342.1 bt342.2.1 (t348 != bt342.2.1))) else (turndownlaw06_CodeFull.j0 k (wrap64 (5 + t341)) l2 t338 bt342.1 bt342.2.1 true))) else (turndownlaw06_CodeFull.j0 k (wrap64 (5 + t341)) l2 t338 bt342.1 bt342.2.1 true)) else (turndownlaw06_CodeFull.j0 k (wrap64 (5 + t341)) l2 t338 bt342.1 bt342.2.1 true)))) = some r := H
 have A4 := Aside0.mk A40
 clear A40
 replace H := Option.bind_eq_some_iff.mp H
 obtain ⟨t341, A50, H⟩ := H
 replace H : ((code_Best.f k t338 (wrap64 (5 + t341))).bind fun bt342 => (if bt342.2.2 = 0 then (if (bt342.1.length : Int) = (t338.length : Int) then ((turndownref06_Lengths.f k bt342.1).bind fun t347 => (if t347 = true then ((turndownref06_Cost.f k t338 bt342.1).bind fun t348 => (turndownlaw06_CodeFull.j0 k (wrap64 (5 + t341)) l2 t338 bt342.1 bt342.2.1 (t348 != bt342.2.1))) else (turndownlaw06_CodeFull.j0 k (wrap64 (5 + t341)) l2 t338 bt342.1 bt342.2.1 true))) else (turndownlaw06_CodeFull.j0 k (wrap64 (5 + t341)) l2 t338 bt342.1 bt342.2.1 true)) else (turndownlaw06_CodeFull.j0 k (wrap64 (5 + t341)) l2 t338 bt342.1 bt342.2.1 true))) = some r := H
 have A5 := Aside0.mk A50
 clear A50
 replace H := Option.bind_eq_some_iff.mp H
 obtain ⟨⟨t342, t343, t344⟩, A60, H⟩ := H
 replace H : (if t344 = 0 then (if (t342.length : Int) = (t338.length : Int) then ((turndownref06_Lengths.f k t342).bind fun t347 => (if t347 = true then ((turndownref06_Cost.f k t338 t342).bind fun t348 => (turndownlaw06_CodeFull.j0 k (wrap64 (5 + t341)) l2 t338 t342 t343 (t348 != t343))) else (turndownlaw06_CodeFull.j0 k (wrap64 (5 + t341)) l2 t338 t342 t343 true))) else (turndownlaw06_CodeFull.j0 k (wrap64 (5 + t341)) l2 t338 t342 t343 true)) else (turndownlaw06_CodeFull.j0 k (wrap64 (5 + t341)) l2 t338 t342 t343 true)) = some r := H
 have A6 := Aside0.mk A60
 clear A60
 have HC7 := Aside0.mk H
 clear H
 go_enter Try.func8, Try.ntmps8
 go_upto_region 4 with (first | (go_at_call 38; (with_reducible refine (turndownlaw06_tame.calls k _ _ l0 30 1 t338 _ ?side1 ?side2 A4.out).mono ?_); (case side1 => repeat (first | exact HR0.out | (with_reducible refine Kd.C_alloc ?_ _) | (with_reducible refine Kd.C_drewN ?_ _) | (with_reducible refine Kd.C_drew ?_))); (case side2 => exact HC0.out); rintro e w8 ⟨v339, rfl, ho0, hb⟩; have n0_ := Aside0.mk (Kd.R_lower ho0 (below_size (by repeat (first | (with_reducible first | exact HB.out | apply below_alloc | apply pw_below_drewN | apply below_drew1) | exact HB.out)))); have n1_ := Aside0.mk (below_step (by repeat (first | (with_reducible first | exact HB.out | apply below_alloc | apply pw_below_drewN | apply below_drew1) | exact HB.out)) hb); clear HB; have HO340 := n0_; have HB := n1_; clear n0_ n1_; (try clear hb); (try clear hb2); (try clear hk); (try clear hi); (try clear ho0)) | (go_at_call 39; (with_reducible refine (turndownlaw06_mod.calls a1 28 t341 _ A5.out).mono ?_); rintro e w' ⟨rfl, ⟨nd, rfl⟩⟩; (try first | exact ⟨rfl, _, World.drewN_drewN _ _ _⟩ | exact ⟨rfl, _, Eq.trans (World.drewN_drewN _ _ _) (congrArg (World.drewN _) (Nat.add_assoc _ _ _))⟩); obtain ⟨Ao9, co9, eo9⟩ := Kd.R_slice HO340.out; subst eo9) | (go_at_call 20; (with_reducible refine (code_Best.calls k _ _ t338 (wrap64 (5 + t341)) t342 t343 t344 _ ?side1 ?side2 A6.out).mono ?_); (case side1 => repeat (first | exact (Kd.R_reads' HO340.out).2.2 | (with_reducible refine Kd.C_alloc ?_ _) | (with_reducible refine Kd.C_drewN ?_ _) | (with_reducible refine Kd.C_drew ?_))); (case side2 => exact (Kd.R_reads' HO340.out).2.1); rintro e w10 ⟨v345, rfl, ho0, hb⟩; have n0_ := Aside0.mk (Kd.R_elder' (by (with_reducible repeat (first | apply Kd.R_alloc | apply Kd.R_drewN | apply Kd.R_drew)); exact HO340.out) (Kd.R_base ho0) hb); have n1_ := Aside0.mk (Kd.R_lower (Kd.R_new' ho0 (Kd.R_lt (by (with_reducible repeat (first | apply Kd.R_alloc | apply Kd.R_drewN | apply Kd.R_drew)); exact HO340.out))) (below_size (by repeat (first | (with_reducible first | exact HB.out | apply below_alloc | apply pw_below_drewN | apply below_drew1) | exact HB.out)))); have n2_ := Aside0.mk (below_step (by repeat (first | (with_reducible first | exact HB.out | apply below_alloc | apply pw_below_drewN | apply below_drew1) | exact HB.out)) hb); clear HO340; clear HB; have HO340 := n0_; have HO346 := n1_; have HB := n2_; clear n0_ n1_ n2_; (try clear hb); (try clear hb2); (try clear hk); (try clear hi); (try clear ho0)))
 repeat (go_quiet (first | (go_at_call 38; (with_reducible refine (turndownlaw06_tame.calls k _ _ l0 30 1 t338 _ ?side1 ?side2 A4.out).mono ?_); (case side1 => repeat (first | exact HR0.out | (with_reducible refine Kd.C_alloc ?_ _) | (with_reducible refine Kd.C_drewN ?_ _) | (with_reducible refine Kd.C_drew ?_))); (case side2 => exact HC0.out); rintro e w8 ⟨v339, rfl, ho0, hb⟩; have n0_ := Aside0.mk (Kd.R_lower ho0 (below_size (by repeat (first | (with_reducible first | exact HB.out | apply below_alloc | apply pw_below_drewN | apply below_drew1) | exact HB.out)))); have n1_ := Aside0.mk (below_step (by repeat (first | (with_reducible first | exact HB.out | apply below_alloc | apply pw_below_drewN | apply below_drew1) | exact HB.out)) hb); clear HB; have HO340 := n0_; have HB := n1_; clear n0_ n1_; (try clear hb); (try clear hb2); (try clear hk); (try clear hi); (try clear ho0)) | (go_at_call 39; (with_reducible refine (turndownlaw06_mod.calls a1 28 t341 _ A5.out).mono ?_); rintro e w' ⟨rfl, ⟨nd, rfl⟩⟩; (try first | exact ⟨rfl, _, World.drewN_drewN _ _ _⟩ | exact ⟨rfl, _, Eq.trans (World.drewN_drewN _ _ _) (congrArg (World.drewN _) (Nat.add_assoc _ _ _))⟩); obtain ⟨Ao9, co9, eo9⟩ := Kd.R_slice HO340.out; subst eo9) | (go_at_call 20; (with_reducible refine (code_Best.calls k _ _ t338 (wrap64 (5 + t341)) t342 t343 t344 _ ?side1 ?side2 A6.out).mono ?_); (case side1 => repeat (first | exact (Kd.R_reads' HO340.out).2.2 | (with_reducible refine Kd.C_alloc ?_ _) | (with_reducible refine Kd.C_drewN ?_ _) | (with_reducible refine Kd.C_drew ?_))); (case side2 => exact (Kd.R_reads' HO340.out).2.1); rintro e w10 ⟨v345, rfl, ho0, hb⟩; have n0_ := Aside0.mk (Kd.R_elder' (by (with_reducible repeat (first | apply Kd.R_alloc | apply Kd.R_drewN | apply Kd.R_drew)); exact HO340.out) (Kd.R_base ho0) hb); have n1_ := Aside0.mk (Kd.R_lower (Kd.R_new' ho0 (Kd.R_lt (by (with_reducible repeat (first | apply Kd.R_alloc | apply Kd.R_drewN | apply Kd.R_drew)); exact HO340.out))) (below_size (by repeat (first | (with_reducible first | exact HB.out | apply below_alloc | apply pw_below_drewN | apply below_drew1) | exact HB.out)))); have n2_ := Aside0.mk (below_step (by repeat (first | (with_reducible first | exact HB.out | apply below_alloc | apply pw_below_drewN | apply below_drew1) | exact HB.out)) hb); clear HO340; clear HB; have HO340 := n0_; have HO346 := n1_; have HB := n2_; clear n0_ n1_ n2_; (try clear hb); (try clear hb2); (try clear hk); (try clear hi); (try clear ho0))); go_upto_region 4 with (first | (go_at_call 38; (with_reducible refine (turndownlaw06_tame.calls k _ _ l0 30 1 t338 _ ?side1 ?side2 A4.out).mono ?_); (case side1 => repeat (first | exact HR0.out | (with_reducible refine Kd.C_alloc ?_ _) | (with_reducible refine Kd.C_drewN ?_ _) | (with_reducible refine Kd.C_drew ?_))); (case side2 => exact HC0.out); rintro e w8 ⟨v339, rfl, ho0, hb⟩; have n0_ := Aside0.mk (Kd.R_lower ho0 (below_size (by repeat (first | (with_reducible first | exact HB.out | apply below_alloc | apply pw_below_drewN | apply below_drew1) | exact HB.out)))); have n1_ := Aside0.mk (below_step (by repeat (first | (with_reducible first | exact HB.out | apply below_alloc | apply pw_below_drewN | apply below_drew1) | exact HB.out)) hb); clear HB; have HO340 := n0_; have HB := n1_; clear n0_ n1_; (try clear hb); (try clear hb2); (try clear hk); (try clear hi); (try clear ho0)) | (go_at_call 39; (with_reducible refine (turndownlaw06_mod.calls a1 28 t341 _ A5.out).mono ?_); rintro e w' ⟨rfl, ⟨nd, rfl⟩⟩; (try first | exact ⟨rfl, _, World.drewN_drewN _ _ _⟩ | exact ⟨rfl, _, Eq.trans (World.drewN_drewN _ _ _) (congrArg (World.drewN _) (Nat.add_assoc _ _ _))⟩); obtain ⟨Ao9, co9, eo9⟩ := Kd.R_slice HO340.out; subst eo9) | (go_at_call 20; (with_reducible refine (code_Best.calls k _ _ t338 (wrap64 (5 + t341)) t342 t343 t344 _ ?side1 ?side2 A6.out).mono ?_); (case side1 => repeat (first | exact (Kd.R_reads' HO340.out).2.2 | (with_reducible refine Kd.C_alloc ?_ _) | (with_reducible refine Kd.C_drewN ?_ _) | (with_reducible refine Kd.C_drew ?_))); (case side2 => exact (Kd.R_reads' HO340.out).2.1); rintro e w10 ⟨v345, rfl, ho0, hb⟩; have n0_ := Aside0.mk (Kd.R_elder' (by (with_reducible repeat (first | apply Kd.R_alloc | apply Kd.R_drewN | apply Kd.R_drew)); exact HO340.out) (Kd.R_base ho0) hb); have n1_ := Aside0.mk (Kd.R_lower (Kd.R_new' ho0 (Kd.R_lt (by (with_reducible repeat (first | apply Kd.R_alloc | apply Kd.R_drewN | apply Kd.R_drew)); exact HO340.out))) (below_size (by repeat (first | (with_reducible first | exact HB.out | apply below_alloc | apply pw_below_drewN | apply below_drew1) | exact HB.out)))); have n2_ := Aside0.mk (below_step (by repeat (first | (with_reducible first | exact HB.out | apply below_alloc | apply pw_below_drewN | apply below_drew1) | exact HB.out)) hb); clear HO340; clear HB; have HO340 := n0_; have HO346 := n1_; have HB := n2_; clear n0_ n1_ n2_; (try clear hb); (try clear hb2); (try clear hk); (try clear hi); (try clear ho0))))
 (try simp only [Act.put, List.setIfInBounds_toArray, List.set_cons_zero, List.set_cons_succ])
 go_cut [48] (fun v48 wc => ∃ (kq : Nat) (x48_6 : Bool), v48 = .bool x48_6 ∧ Aside0 (turndownlaw06_CodeFull.j0 kq (wrap64 (5 + t341)) l2 t338 t342 t343 x48_6 = some r) ∧ Aside0 (kq ≤ k) ∧ Aside0 (Kd.R (Kd.int .i64) 3 wc w.heap.size (fun k_ => some k_ ≠ (v345 : Value).ownBlock) (.slice Ao9 t338.length co9) t338) ∧ Aside0 (Kd.R (Kd.int .i64) 3 wc w.heap.size (fun k_ => some k_ ≠ ((.slice Ao9 t338.length co9) : Value).ownBlock) v345 t342) ∧ Aside0 (Below w.heap.size w wc))
 case first =>
  have H := HC7.out
  clear HC7
  by_cases c11 : t344 = 0
  ·
   rw [if_pos c11] at H
   have c11b0 : (t344 == 0) = true := beq_iff_eq.mpr c11
   have c11b1 : (t344 != 0) = false := bne_eq_false_iff_eq.mpr c11
   clear c11
   (first | rw [c11b0] | (simp only [i64_w, i32_w]; rw [c11b0]) | skip)
   by_cases c12 : (t342.length : Int) = (t338.length : Int)
   ·
    rw [if_pos c12] at H
    have c12b0 : ((t342.length : Int) == (t338.length : Int)) = true := beq_iff_eq.mpr c12
    have c12b1 : ((t342.length : Int) != (t338.length : Int)) = false := bne_eq_false_iff_eq.mpr c12
    have c12b2 : (t342.length == t338.length) = true := by first | simpa using c12 | (simp at c12 ⊢; omega)
    clear c12
    replace H := Option.bind_eq_some_iff.mp H
    obtain ⟨t347, A130, H⟩ := H
    replace H : (if t347 = true then ((turndownref06_Cost.f k t338 t342).bind fun t348 => (turndownlaw06_CodeFull.j0 k (wrap64 (5 + t341)) l2 t338 t342 t343 (t348 != t343))) else (turndownlaw06_CodeFull.j0 k (wrap64 (5 + t341)) l2 t338 t342 t343 true)) = some r := H
    have A13 := Aside0.mk A130
    clear A130
    by_cases c14 : t347 = true
    ·
     subst c14
     have H1 : ((turndownref06_Cost.f k t338 t342).bind fun t348 => (turndownlaw06_CodeFull.j0 k (wrap64 (5 + t341)) l2 t338 t342 t343 (t348 != t343))) = some r := by rw [if_pos rfl] at H; exact H
     clear H
     have H := H1
     clear H1
     replace H := Option.bind_eq_some_iff.mp H
     obtain ⟨t348, A150, H⟩ := H
     replace H : (turndownlaw06_CodeFull.j0 k (wrap64 (5 + t341)) l2 t338 t342 t343 (t348 != t343)) = some r := H
     have A15 := Aside0.mk A150
     clear A150
     have H' := Aside0.mk H
     clear H
     obtain ⟨Ao16, co16, eo16⟩ := Kd.R_slice HO346.out
     subst eo16
     go_wp2_with (first | (go_at_call 24; (with_reducible refine (turndownref06_Lengths.calls k _ _ t342 true _ ?side1 ?side2 A13.out).mono ?_); (case side1 => repeat (first | exact (Kd.R_reads' HO346.out).2.2 | (with_reducible refine Kd.C_alloc ?_ _) | (with_reducible refine Kd.C_drewN ?_ _) | (with_reducible refine Kd.C_drew ?_))); (case side2 => exact (Kd.R_reads' HO346.out).2.1); rintro e w' ⟨rfl, ⟨nd, rfl⟩⟩; (try first | exact ⟨rfl, _, World.drewN_drewN _ _ _⟩ | exact ⟨rfl, _, Eq.trans (World.drewN_drewN _ _ _) (congrArg (World.drewN _) (Nat.add_assoc _ _ _))⟩)) | (go_at_call 26; (with_reducible refine (turndownref06_Cost.calls k _ _ t338 _ _ t342 t348 _ ?side1 ?side2 ?side3 ?side4 A15.out).mono ?_); (case side1 => repeat (first | exact (Kd.R_reads' HO340.out).2.2 | (with_reducible refine Kd.C_alloc ?_ _) | (with_reducible refine Kd.C_drewN ?_ _) | (with_reducible refine Kd.C_drew ?_))); (case side2 => exact (Kd.R_reads' HO340.out).2.1); (case side3 => repeat (first | exact (Kd.R_reads' HO346.out).2.2 | (with_reducible refine Kd.C_alloc ?_ _) | (with_reducible refine Kd.C_drewN ?_ _) | (with_reducible refine Kd.C_drew ?_))); (case side4 => exact (Kd.R_reads' HO346.out).2.1); rintro e w' ⟨rfl, ⟨nd, rfl⟩⟩; (try first | exact ⟨rfl, _, World.drewN_drewN _ _ _⟩ | exact ⟨rfl, _, Eq.trans (World.drewN_drewN _ _ _) (congrArg (World.drewN _) (Nat.add_assoc _ _ _))⟩)))
     repeat (go_quiet (first | (go_at_call 24; (with_reducible refine (turndownref06_Lengths.calls k _ _ t342 true _ ?side1 ?side2 A13.out).mono ?_); (case side1 => repeat (first | exact (Kd.R_reads' HO346.out).2.2 | (with_reducible refine Kd.C_alloc ?_ _) | (with_reducible refine Kd.C_drewN ?_ _) | (with_reducible refine Kd.C_drew ?_))); (case side2 => exact (Kd.R_reads' HO346.out).2.1); rintro e w' ⟨rfl, ⟨nd, rfl⟩⟩; (try first | exact ⟨rfl, _, World.drewN_drewN _ _ _⟩ | exact ⟨rfl, _, Eq.trans (World.drewN_drewN _ _ _) (congrArg (World.drewN _) (Nat.add_assoc _ _ _))⟩)) | (go_at_call 26; (with_reducible refine (turndownref06_Cost.calls k _ _ t338 _ _ t342 t348 _ ?side1 ?side2 ?side3 ?side4 A15.out).mono ?_); (case side1 => repeat (first | exact (Kd.R_reads' HO340.out).2.2 | (with_reducible refine Kd.C_alloc ?_ _) | (with_reducible refine Kd.C_drewN ?_ _) | (with_reducible refine Kd.C_drew ?_))); (case side2 => exact (Kd.R_reads' HO340.out).2.1); (case side3 => repeat (first | exact (Kd.R_reads' HO346.out).2.2 | (with_reducible refine Kd.C_alloc ?_ _) | (with_reducible refine Kd.C_drewN ?_ _) | (with_reducible refine Kd.C_drew ?_))); (case side4 => exact (Kd.R_reads' HO346.out).2.1); rintro e w' ⟨rfl, ⟨nd, rfl⟩⟩; (try first | exact ⟨rfl, _, World.drewN_drewN _ _ _⟩ | exact ⟨rfl, _, Eq.trans (World.drewN_drewN _ _ _) (congrArg (World.drewN _) (Nat.add_assoc _ _ _))⟩))); try go_wp2_with (first | (go_at_call 24; (with_reducible refine (turndownref06_Lengths.calls k _ _ t342 true _ ?side1 ?side2 A13.out).mono ?_); (case side1 => repeat (first | exact (Kd.R_reads' HO346.out).2.2 | (with_reducible refine Kd.C_alloc ?_ _) | (with_reducible refine Kd.C_drewN ?_ _) | (with_reducible refine Kd.C_drew ?_))); (case side2 => exact (Kd.R_reads' HO346.out).2.1); rintro e w' ⟨rfl, ⟨nd, rfl⟩⟩; (try first | exact ⟨rfl, _, World.drewN_drewN _ _ _⟩ | exact ⟨rfl, _, Eq.trans (World.drewN_drewN _ _ _) (congrArg (World.drewN _) (Nat.add_assoc _ _ _))⟩)) | (go_at_call 26; (with_reducible refine (turndownref06_Cost.calls k _ _ t338 _ _ t342 t348 _ ?side1 ?side2 ?side3 ?side4 A15.out).mono ?_); (case side1 => repeat (first | exact (Kd.R_reads' HO340.out).2.2 | (with_reducible refine Kd.C_alloc ?_ _) | (with_reducible refine Kd.C_drewN ?_ _) | (with_reducible refine Kd.C_drew ?_))); (case side2 => exact (Kd.R_reads' HO340.out).2.1); (case side3 => repeat (first | exact (Kd.R_reads' HO346.out).2.2 | (with_reducible refine Kd.C_alloc ?_ _) | (with_reducible refine Kd.C_drewN ?_ _) | (with_reducible refine Kd.C_drew ?_))); (case side4 => exact (Kd.R_reads' HO346.out).2.1); rintro e w' ⟨rfl, ⟨nd, rfl⟩⟩; (try first | exact ⟨rfl, _, World.drewN_drewN _ _ _⟩ | exact ⟨rfl, _, Eq.trans (World.drewN_drewN _ _ _) (congrArg (World.drewN _) (Nat.add_assoc _ _ _))⟩))))
     go_meet
     case rel => exact ⟨_, ((t348 != t343)), (by first | rfl | (simp; done) | (simp [*]; done)), H', ⟨by first | omega | exact Nat.le_refl _⟩, ⟨by (with_reducible repeat (first | apply Kd.R_alloc | apply Kd.R_drewN | apply Kd.R_drew)); exact Kd.R_mono HO340.out (fun _ hk => hk.2)⟩, ⟨by (with_reducible repeat (first | apply Kd.R_alloc | apply Kd.R_drewN | apply Kd.R_drew)); exact Kd.R_mono HO346.out (fun _ hk => hk.2)⟩, ⟨by repeat (first | (with_reducible first | exact HB.out | apply below_alloc | apply pw_below_drewN | apply below_drew1) | exact HB.out)⟩⟩
    ·
     replace c14 := Bool.eq_false_iff.mpr c14
     subst c14
     have H1 : (turndownlaw06_CodeFull.j0 k (wrap64 (5 + t341)) l2 t338 t342 t343 true) = some r := by rw [if_neg (show ¬ (false = true) by decide)] at H; exact H
     clear H
     have H := H1
     clear H1
     have H' := Aside0.mk H
     clear H
     obtain ⟨Ao17, co17, eo17⟩ := Kd.R_slice HO346.out
     subst eo17
     go_wp2_with (first | (go_at_call 24; (with_reducible refine (turndownref06_Lengths.calls k _ _ t342 false _ ?side1 ?side2 A13.out).mono ?_); (case side1 => repeat (first | exact (Kd.R_reads' HO346.out).2.2 | (with_reducible refine Kd.C_alloc ?_ _) | (with_reducible refine Kd.C_drewN ?_ _) | (with_reducible refine Kd.C_drew ?_))); (case side2 => exact (Kd.R_reads' HO346.out).2.1); rintro e w' ⟨rfl, ⟨nd, rfl⟩⟩; (try first | exact ⟨rfl, _, World.drewN_drewN _ _ _⟩ | exact ⟨rfl, _, Eq.trans (World.drewN_drewN _ _ _) (congrArg (World.drewN _) (Nat.add_assoc _ _ _))⟩)))
     repeat (go_quiet (first | (go_at_call 24; (with_reducible refine (turndownref06_Lengths.calls k _ _ t342 false _ ?side1 ?side2 A13.out).mono ?_); (case side1 => repeat (first | exact (Kd.R_reads' HO346.out).2.2 | (with_reducible refine Kd.C_alloc ?_ _) | (with_reducible refine Kd.C_drewN ?_ _) | (with_reducible refine Kd.C_drew ?_))); (case side2 => exact (Kd.R_reads' HO346.out).2.1); rintro e w' ⟨rfl, ⟨nd, rfl⟩⟩; (try first | exact ⟨rfl, _, World.drewN_drewN _ _ _⟩ | exact ⟨rfl, _, Eq.trans (World.drewN_drewN _ _ _) (congrArg (World.drewN _) (Nat.add_assoc _ _ _))⟩))); try go_wp2_with (first | (go_at_call 24; (with_reducible refine (turndownref06_Lengths.calls k _ _ t342 false _ ?side1 ?side2 A13.out).mono ?_); (case side1 => repeat (first | exact (Kd.R_reads' HO346.out).2.2 | (with_reducible refine Kd.C_alloc ?_ _) | (with_reducible refine Kd.C_drewN ?_ _) | (with_reducible refine Kd.C_drew ?_))); (case side2 => exact (Kd.R_reads' HO346.out).2.1); rintro e w' ⟨rfl, ⟨nd, rfl⟩⟩; (try first | exact ⟨rfl, _, World.drewN_drewN _ _ _⟩ | exact ⟨rfl, _, Eq.trans (World.drewN_drewN _ _ _) (congrArg (World.drewN _) (Nat.add_assoc _ _ _))⟩))))
     go_meet
     case rel => exact ⟨_, (true), (by first | rfl | (simp; done) | (simp [*]; done)), H', ⟨by first | omega | exact Nat.le_refl _⟩, ⟨by (with_reducible repeat (first | apply Kd.R_alloc | apply Kd.R_drewN | apply Kd.R_drew)); exact Kd.R_mono HO340.out (fun _ hk => hk.2)⟩, ⟨by (with_reducible repeat (first | apply Kd.R_alloc | apply Kd.R_drewN | apply Kd.R_drew)); exact Kd.R_mono HO346.out (fun _ hk => hk.2)⟩, ⟨by repeat (first | (with_reducible first | exact HB.out | apply below_alloc | apply pw_below_drewN | apply below_drew1) | exact HB.out)⟩⟩
   ·
    rw [if_neg c12] at H
    have c12b0 : ((t342.length : Int) == (t338.length : Int)) = false := beq_eq_false_iff_ne.mpr c12
    have c12b1 : ((t342.length : Int) != (t338.length : Int)) = true := bne_iff_ne.mpr c12
    have c12b2 : (t342.length == t338.length) = false := by first | simpa using c12 | (simp at c12 ⊢; omega)
    have H' := Aside0.mk H
    clear H
    obtain ⟨Ao18, co18, eo18⟩ := Kd.R_slice HO346.out
    subst eo18
    go_wp2
    repeat (go_quiet (fail); try go_wp2)
    go_meet
    case rel => exact ⟨_, (true), (by first | rfl | (simp; done) | (simp [*]; done)), H', ⟨by first | omega | exact Nat.le_refl _⟩, ⟨by (with_reducible repeat (first | apply Kd.R_alloc | apply Kd.R_drewN | apply Kd.R_drew)); exact Kd.R_mono HO340.out (fun _ hk => hk.2)⟩, ⟨by (with_reducible repeat (first | apply Kd.R_alloc | apply Kd.R_drewN | apply Kd.R_drew)); exact Kd.R_mono HO346.out (fun _ hk => hk.2)⟩, ⟨by repeat (first | (with_reducible first | exact HB.out | apply below_alloc | apply pw_below_drewN | apply below_drew1) | exact HB.out)⟩⟩
  ·
   rw [if_neg c11] at H
   have c11b0 : (t344 == 0) = false := beq_eq_false_iff_ne.mpr c11
   have c11b1 : (t344 != 0) = true := bne_iff_ne.mpr c11
   (first | rw [c11b0] | (simp only [i64_w, i32_w]; rw [c11b0]) | skip)
   have H' := Aside0.mk H
   clear H
   go_wp2
   repeat (go_quiet (fail); try go_wp2)
   go_meet
   case rel => exact ⟨_, (true), (by first | rfl | (simp; done) | (simp [*]; done)), H', ⟨by first | omega | exact Nat.le_refl _⟩, ⟨by (with_reducible repeat (first | apply Kd.R_alloc | apply Kd.R_drewN | apply Kd.R_drew)); exact Kd.R_mono HO340.out (fun _ hk => hk.2)⟩, ⟨by (with_reducible repeat (first | apply Kd.R_alloc | apply Kd.R_drewN | apply Kd.R_drew)); exact Kd.R_mono HO346.out (fun _ hk => hk.2)⟩, ⟨by repeat (first | (with_reducible first | exact HB.out | apply below_alloc | apply pw_below_drewN | apply below_drew1) | exact HB.out)⟩⟩
 case rest =>
  clear HC7
  try clear c1
  try clear c2
  try clear p2
  try clear p6
  try clear c8
  try clear c11
  try clear c11b0
  try clear c11b1
  try clear c12
  try clear c12b0
  try clear c12b1
  try clear c12b2
  try clear c14
  obtain ⟨kq, x48_6, rfl, HA, HJ6, HO_7, HO_8, HB⟩ := hcut
  cases kq with
  | zero => exact absurd HA.out (by simp [turndownlaw06_CodeFull.j0])
  | succ kj6 =>
   have H := HA.out
   clear HA
   simp only [turndownlaw06_CodeFull.j0] at H
   by_cases c19 : x48_6 = true
   ·
    subst c19
    have H1 : (some false) = some r := by rw [if_pos rfl] at H; exact H
    clear H
    have H := H1
    clear H1
    obtain rfl := Option.some.inj H
    go_wp2
    repeat (go_quiet (fail); try go_wp2)
    go_ret
    exact ⟨by first | rfl | (simp [errW_none, errW_some] <;> rfl) | (simp [*, errW_none, errW_some] <;> rfl), by repeat (first | (with_reducible first | exact HB.out | apply below_alloc | apply pw_below_drewN | apply below_drew1) | exact HB.out)⟩
   ·
    replace c19 := Bool.eq_false_iff.mpr c19
    subst c19
    have H1 : (if (t338.length : Int) > 1 then ((turndownref06_Sum.f kj6 t342).bind fun t349 => (turndownlaw06_CodeFull.j1 kj6 (wrap64 (5 + t341)) l2 t338 t342 t343 (t349 != 4294967296))) else (turndownlaw06_CodeFull.j1 kj6 (wrap64 (5 + t341)) l2 t338 t342 t343 false)) = some r := by rw [if_neg (show ¬ (false = true) by decide)] at H; exact H
    clear H
    have H := H1
    clear H1
    have HC20 := Aside0.mk H
    clear H
    go_upto_region 6 with (fail)
    repeat (go_quiet (fail); go_upto_region 6 with (fail))
    go_cut [56] (fun v56 wc => ∃ (kq : Nat) (x56_19 : Bool), v56 = .bool x56_19 ∧ Aside0 (turndownlaw06_CodeFull.j1 kq (wrap64 (5 + t341)) l2 t338 t342 t343 x56_19 = some r) ∧ Aside0 (kq ≤ kj6) ∧ Aside0 (Kd.R (Kd.int .i64) 3 wc w.heap.size (fun k_ => some k_ ≠ (v345 : Value).ownBlock) (.slice Ao9 t338.length co9) t338) ∧ Aside0 (Kd.R (Kd.int .i64) 3 wc w.heap.size (fun k_ => some k_ ≠ ((.slice Ao9 t338.length co9) : Value).ownBlock) v345 t342) ∧ Aside0 (Below w.heap.size w wc))
    case first =>
     have H := HC20.out
     clear HC20
     by_cases c21 : (t338.length : Int) > 1
     ·
      rw [if_pos c21] at H
      have c21b0 : decide (1 < (t338.length : Int)) = true := decide_eq_true c21
      have c21b1 : decide (1 < t338.length) = true := decide_eq_true (by omega)
      clear c21
      (first | rw [c21b0] | (simp only [i64_w, i32_w]; rw [c21b0]) | skip)
      replace H := Option.bind_eq_some_iff.mp H
      obtain ⟨t349, A220, H⟩ := H
      replace H : (turndownlaw06_CodeFull.j1 kj6 (wrap64 (5 + t341)) l2 t338 t342 t343 (t349 != 4294967296)) = some r := H
      have A22 := Aside0.mk A220
      clear A220
      have H' := Aside0.mk H
      clear H
      obtain ⟨Ao23, co23, eo23⟩ := Kd.R_slice HO_8.out
      subst eo23
      go_wp2_with (first | (go_at_call 40; (with_reducible refine (turndownref06_Sum.calls kj6 _ _ t342 t349 _ ?side1 ?side2 A22.out).mono ?_); (case side1 => repeat (first | exact (Kd.R_reads' HO_8.out).2.2 | (with_reducible refine Kd.C_alloc ?_ _) | (with_reducible refine Kd.C_drewN ?_ _) | (with_reducible refine Kd.C_drew ?_))); (case side2 => exact (Kd.R_reads' HO_8.out).2.1); rintro e w' ⟨rfl, ⟨nd, rfl⟩⟩; (try first | exact ⟨rfl, _, World.drewN_drewN _ _ _⟩ | exact ⟨rfl, _, Eq.trans (World.drewN_drewN _ _ _) (congrArg (World.drewN _) (Nat.add_assoc _ _ _))⟩)))
      repeat (go_quiet (first | (go_at_call 40; (with_reducible refine (turndownref06_Sum.calls kj6 _ _ t342 t349 _ ?side1 ?side2 A22.out).mono ?_); (case side1 => repeat (first | exact (Kd.R_reads' HO_8.out).2.2 | (with_reducible refine Kd.C_alloc ?_ _) | (with_reducible refine Kd.C_drewN ?_ _) | (with_reducible refine Kd.C_drew ?_))); (case side2 => exact (Kd.R_reads' HO_8.out).2.1); rintro e w' ⟨rfl, ⟨nd, rfl⟩⟩; (try first | exact ⟨rfl, _, World.drewN_drewN _ _ _⟩ | exact ⟨rfl, _, Eq.trans (World.drewN_drewN _ _ _) (congrArg (World.drewN _) (Nat.add_assoc _ _ _))⟩))); try go_wp2_with (first | (go_at_call 40; (with_reducible refine (turndownref06_Sum.calls kj6 _ _ t342 t349 _ ?side1 ?side2 A22.out).mono ?_); (case side1 => repeat (first | exact (Kd.R_reads' HO_8.out).2.2 | (with_reducible refine Kd.C_alloc ?_ _) | (with_reducible refine Kd.C_drewN ?_ _) | (with_reducible refine Kd.C_drew ?_))); (case side2 => exact (Kd.R_reads' HO_8.out).2.1); rintro e w' ⟨rfl, ⟨nd, rfl⟩⟩; (try first | exact ⟨rfl, _, World.drewN_drewN _ _ _⟩ | exact ⟨rfl, _, Eq.trans (World.drewN_drewN _ _ _) (congrArg (World.drewN _) (Nat.add_assoc _ _ _))⟩))))
      go_meet
      case rel => exact ⟨_, ((t349 != 4294967296)), (by first | rfl | (simp; done) | (simp [*]; done)), H', ⟨by have := HJ6.out; first | omega | exact Nat.le_refl _⟩, ⟨by (with_reducible repeat (first | apply Kd.R_alloc | apply Kd.R_drewN | apply Kd.R_drew)); exact HO_7.out⟩, ⟨by (with_reducible repeat (first | apply Kd.R_alloc | apply Kd.R_drewN | apply Kd.R_drew)); exact HO_8.out⟩, ⟨by repeat (first | (with_reducible first | exact HB.out | apply below_alloc | apply pw_below_drewN | apply below_drew1) | exact HB.out)⟩⟩
     ·
      rw [if_neg c21] at H
      have c21b0 : decide (1 < (t338.length : Int)) = false := decide_eq_false c21
      have c21b1 : decide (1 < t338.length) = false := decide_eq_false (by omega)
      clear c21
      (first | rw [c21b0] | (simp only [i64_w, i32_w]; rw [c21b0]) | skip)
      have H' := Aside0.mk H
      clear H
      go_wp2
      repeat (go_quiet (fail); try go_wp2)
      go_meet
      case rel => exact ⟨_, (false), (by first | rfl | (simp; done) | (simp [*]; done)), H', ⟨by have := HJ6.out; first | omega | exact Nat.le_refl _⟩, ⟨by (with_reducible repeat (first | apply Kd.R_alloc | apply Kd.R_drewN | apply Kd.R_drew)); exact HO_7.out⟩, ⟨by (with_reducible repeat (first | apply Kd.R_alloc | apply Kd.R_drewN | apply Kd.R_drew)); exact HO_8.out⟩, ⟨by repeat (first | (with_reducible first | exact HB.out | apply below_alloc | apply pw_below_drewN | apply below_drew1) | exact HB.out)⟩⟩
    case rest =>
     clear HC20
     try clear c1
     try clear c2
     try clear p2
     try clear p6
     try clear c8
     try clear c11
     try clear c11b0
     try clear c11b1
     try clear c12
     try clear c12b0
     try clear c12b1
     try clear c12b2
     try clear c14
     try clear c19
     try clear c21
     try clear c21b0
     try clear c21b1
     try clear p2
     try clear p6
     obtain ⟨kq, x56_19, rfl, HA, HJ19, HO_7, HO_8, HB⟩ := hcut
     cases kq with
     | zero => exact absurd HA.out (by simp [turndownlaw06_CodeFull.j1])
     | succ kj19 =>
      have H := HA.out
      clear HA
      simp only [turndownlaw06_CodeFull.j1] at H
      by_cases c24 : x56_19 = true
      ·
       subst c24
       have H1 : (some false) = some r := by rw [if_pos rfl] at H; exact H
       clear H
       have H := H1
       clear H1
       obtain rfl := Option.some.inj H
       go_wp2
       repeat (go_quiet (fail); try go_wp2)
       go_ret
       exact ⟨by first | rfl | (simp [errW_none, errW_some] <;> rfl) | (simp [*, errW_none, errW_some] <;> rfl), by repeat (first | (with_reducible first | exact HB.out | apply below_alloc | apply pw_below_drewN | apply below_drew1) | exact HB.out)⟩
      ·
       replace c24 := Bool.eq_false_iff.mpr c24
       subst c24
       have H1 : (turndownlaw06_CodeFull.l0 kj19 (wrap64 (5 + t341)) l2 t338 t342 t343 0) = some r := by rw [if_neg (show ¬ (false = true) by decide)] at H; exact H
       clear H
       have H := H1
       clear H1
       have H' := Aside0.mk H
       clear H
       go_wp2
       repeat (go_quiet (fail); try go_wp2)
       go_loopg [11] kj19 (fun kq v11 w' => ∃ (x11_3 : Int), v11 = .int .i64 x11_3 ∧ Aside0 (turndownlaw06_CodeFull.l0 kq (wrap64 (5 + t341)) l2 t338 t342 t343 x11_3 = some r) ∧ Aside0 (kq ≤ kj19) ∧ Aside0 (Kd.R (Kd.int .i64) 3 w' w.heap.size (fun k_ => some k_ ≠ (v345 : Value).ownBlock) (.slice Ao9 t338.length co9) t338) ∧ Aside0 (Kd.R (Kd.int .i64) 3 w' w.heap.size (fun k_ => some k_ ≠ ((.slice Ao9 t338.length co9) : Value).ownBlock) v345 t342) ∧ Aside0 (Below w.heap.size w w'))
       case atStart => exact ⟨(0), (by first | rfl | (simp; done) | (simp [*]; done)), H', ⟨Nat.le_refl _⟩, ⟨by (with_reducible repeat (first | apply Kd.R_alloc | apply Kd.R_drewN | apply Kd.R_drew)); exact HO_7.out⟩, ⟨by (with_reducible repeat (first | apply Kd.R_alloc | apply Kd.R_drewN | apply Kd.R_drew)); exact HO_8.out⟩, ⟨by repeat (first | (with_reducible first | exact HB.out | apply below_alloc | apply pw_below_drewN | apply below_drew1) | exact HB.out)⟩⟩
       case round =>
        clear H'
        try clear c1
        try clear c2
        try clear p2
        try clear p6
        try clear c8
        try clear c11
        try clear c11b0
        try clear c11b1
        try clear c12
        try clear c12b0
        try clear c12b1
        try clear c12b2
        try clear c14
        try clear c19
        try clear c21
        try clear c21b0
        try clear c21b1
        try clear c24
        try clear p2
        try clear p6
        obtain ⟨x11_3, rfl, HA, HK3, HO_7, HO_8, HB⟩ := hrel
        cases gk with
        | zero => exact absurd HA.out (by simp [turndownlaw06_CodeFull.l0])
        | succ k3 =>
         have H := HA.out
         clear HA
         simp only [turndownlaw06_CodeFull.l0] at H
         by_cases c25 : x11_3 < (t342.length : Int)
         ·
          rw [if_pos c25] at H
          have c25b0 : decide (x11_3 < (t342.length : Int)) = true := decide_eq_true c25
          clear c25
          have H' := Aside0.mk H
          clear H
          obtain ⟨Ao26, co26, eo26⟩ := Kd.R_slice HO_8.out
          subst eo26
          go_wp2
          repeat (go_quiet (fail); try go_wp2)
          go_loopg [12] k3 (fun kq v12 w' => ∃ (x12_4 : Int), v12 = .int .i64 x12_4 ∧ Aside0 (turndownlaw06_CodeFull.l1 kq (wrap64 (5 + t341)) l2 t338 t342 t343 x11_3 x12_4 = some r) ∧ Aside0 (kq ≤ k3) ∧ Aside0 (Kd.R (Kd.int .i64) 3 w' w.heap.size (fun k_ => some k_ ≠ ((.slice Ao26 t342.length co26) : Value).ownBlock) (.slice Ao9 t338.length co9) t338) ∧ Aside0 (Kd.R (Kd.int .i64) 3 w' w.heap.size (fun k_ => some k_ ≠ ((.slice Ao9 t338.length co9) : Value).ownBlock) (.slice Ao26 t342.length co26) t342) ∧ Aside0 (Below w.heap.size w w'))
          case atStart => exact ⟨(0), (by first | rfl | (simp; done) | (simp [*]; done)), H', ⟨Nat.le_refl _⟩, ⟨by (with_reducible repeat (first | apply Kd.R_alloc | apply Kd.R_drewN | apply Kd.R_drew)); exact HO_7.out⟩, ⟨by (with_reducible repeat (first | apply Kd.R_alloc | apply Kd.R_drewN | apply Kd.R_drew)); exact HO_8.out⟩, ⟨by repeat (first | (with_reducible first | exact HB.out | apply below_alloc | apply pw_below_drewN | apply below_drew1) | exact HB.out)⟩⟩
          case round =>
           clear H'
           try clear c1
           try clear c2
           try clear p2
           try clear p6
           try clear c8
           try clear c11
           try clear c11b0
           try clear c11b1
           try clear c12
           try clear c12b0
           try clear c12b1
           try clear c12b2
           try clear c14
           try clear c19
           try clear c21
           try clear c21b0
           try clear c21b1
           try clear c24
           try clear c25
           try clear c25b0
           try clear p2
           try clear p6
           obtain ⟨x12_4, rfl, HA, HK4, HO_7, HO_8, HB⟩ := hrel
           cases gk with
           | zero => exact absurd HA.out (by simp [turndownlaw06_CodeFull.l1])
           | succ k4 =>
            have H := HA.out
            clear HA
            simp only [turndownlaw06_CodeFull.l1] at H
            by_cases c27 : x12_4 < (t342.length : Int)
            ·
             rw [if_pos c27] at H
             have c27b0 : decide (x12_4 < (t342.length : Int)) = true := decide_eq_true c27
             clear c27
             by_cases c28 : 0 ≤ x11_3
             ·
              rw [if_pos c28] at H
              have c28b0 : decide (0 ≤ x11_3) = true := decide_eq_true c28
              clear c28
              by_cases c29 : x11_3 < (t338.length : Int)
              ·
               rw [if_pos c29] at H
               have c29b0 : decide (x11_3 < (t338.length : Int)) = true := decide_eq_true c29
               clear c29
               by_cases c30 : 0 ≤ x12_4
               ·
                rw [if_pos c30] at H
                have c30b0 : decide (0 ≤ x12_4) = true := decide_eq_true c30
                clear c30
                by_cases c31 : x12_4 < (t338.length : Int)
                ·
                 rw [if_pos c31] at H
                 have c31b0 : decide (x12_4 < (t338.length : Int)) = true := decide_eq_true c31
                 clear c31
                 by_cases c32 : (rd t338 x11_3) > (rd t338 x12_4)
                 ·
                  rw [if_pos c32] at H
                  have c32b0 : decide ((rd t338 x12_4) < (rd t338 x11_3)) = true := decide_eq_true c32
                  clear c32
                  by_cases c33 : x11_3 < (t342.length : Int)
                  ·
                   rw [if_pos c33] at H
                   have c33b0 : decide (x11_3 < (t342.length : Int)) = true := decide_eq_true c33
                   clear c33
                   by_cases c34 : (rd t342 x11_3) > (rd t342 x12_4)
                   ·
                    rw [if_pos c34] at H
                    have c34b0 : decide ((rd t342 x12_4) < (rd t342 x11_3)) = true := decide_eq_true c34
                    clear c34
                    obtain rfl := Option.some.inj H
                    have p350 : 0 ≤ (x11_3 : Int) := of_decide_eq_true (by first | (with_reducible assumption) | assumption)
                    have q350 : x11_3 < (t338.length : Int) := of_decide_eq_true (by first | (with_reducible assumption) | assumption)
                    obtain ⟨ad350, e350, hx350_0⟩ := Kd.at_int (Kd.R_reads' HO_7.out).2.2 x11_3 p350 q350
                    cases e350
                    replace p350 := eq_true p350
                    replace q350 := eq_true q350
                    have p351 : 0 ≤ (x12_4 : Int) := of_decide_eq_true (by first | (with_reducible assumption) | assumption)
                    have q351 : x12_4 < (t338.length : Int) := of_decide_eq_true (by first | (with_reducible assumption) | assumption)
                    obtain ⟨ad351, e351, hx351_0⟩ := Kd.at_int (Kd.R_reads' HO_7.out).2.2 x12_4 p351 q351
                    obtain rfl : ad350 = ad351 := (by injection e351)
                    replace p351 := eq_true p351
                    replace q351 := eq_true q351
                    have p352 : 0 ≤ (x11_3 : Int) := of_decide_eq_true (by first | (with_reducible assumption) | assumption)
                    have q352 : x11_3 < (t342.length : Int) := of_decide_eq_true (by first | (with_reducible assumption) | assumption)
                    obtain ⟨ad352, e352, hx352_0⟩ := Kd.at_int (Kd.R_reads' HO_8.out).2.2 x11_3 p352 q352
                    cases e352
                    replace p352 := eq_true p352
                    replace q352 := eq_true q352
                    have p353 : 0 ≤ (x12_4 : Int) := of_decide_eq_true (by first | (with_reducible assumption) | assumption)
                    have q353 : x12_4 < (t342.length : Int) := of_decide_eq_true (by first | (with_reducible assumption) | assumption)
                    obtain ⟨ad353, e353, hx353_0⟩ := Kd.at_int (Kd.R_reads' HO_8.out).2.2 x12_4 p353 q353
                    obtain rfl : ad352 = ad353 := (by injection e353)
                    replace p353 := eq_true p353
                    replace q353 := eq_true q353
                    go_wp2
                    repeat (go_quiet (fail); try go_wp2)
                    go_ret
                    exact ⟨by first | rfl | (simp [errW_none, errW_some] <;> rfl) | (simp [*, errW_none, errW_some] <;> rfl), by repeat (first | (with_reducible first | exact HB.out | apply below_alloc | apply pw_below_drewN | apply below_drew1) | exact HB.out)⟩
                   ·
                    rw [if_neg c34] at H
                    have c34b0 : decide ((rd t342 x12_4) < (rd t342 x11_3)) = false := decide_eq_false c34
                    clear c34
                    have H' := Aside0.mk H
                    clear H
                    have p350 : 0 ≤ (x11_3 : Int) := of_decide_eq_true (by first | (with_reducible assumption) | assumption)
                    have q350 : x11_3 < (t338.length : Int) := of_decide_eq_true (by first | (with_reducible assumption) | assumption)
                    obtain ⟨ad350, e350, hx350_0⟩ := Kd.at_int (Kd.R_reads' HO_7.out).2.2 x11_3 p350 q350
                    cases e350
                    replace p350 := eq_true p350
                    replace q350 := eq_true q350
                    have p351 : 0 ≤ (x12_4 : Int) := of_decide_eq_true (by first | (with_reducible assumption) | assumption)
                    have q351 : x12_4 < (t338.length : Int) := of_decide_eq_true (by first | (with_reducible assumption) | assumption)
                    obtain ⟨ad351, e351, hx351_0⟩ := Kd.at_int (Kd.R_reads' HO_7.out).2.2 x12_4 p351 q351
                    obtain rfl : ad350 = ad351 := (by injection e351)
                    replace p351 := eq_true p351
                    replace q351 := eq_true q351
                    have p352 : 0 ≤ (x11_3 : Int) := of_decide_eq_true (by first | (with_reducible assumption) | assumption)
                    have q352 : x11_3 < (t342.length : Int) := of_decide_eq_true (by first | (with_reducible assumption) | assumption)
                    obtain ⟨ad352, e352, hx352_0⟩ := Kd.at_int (Kd.R_reads' HO_8.out).2.2 x11_3 p352 q352
                    cases e352
                    replace p352 := eq_true p352
                    replace q352 := eq_true q352
                    have p353 : 0 ≤ (x12_4 : Int) := of_decide_eq_true (by first | (with_reducible assumption) | assumption)
                    have q353 : x12_4 < (t342.length : Int) := of_decide_eq_true (by first | (with_reducible assumption) | assumption)
                    obtain ⟨ad353, e353, hx353_0⟩ := Kd.at_int (Kd.R_reads' HO_8.out).2.2 x12_4 p353 q353
                    obtain rfl : ad352 = ad353 := (by injection e353)
                    replace p353 := eq_true p353
                    replace q353 := eq_true q353
                    go_wp2
                    repeat (go_quiet (fail); try go_wp2)
                    go_roundg k4
                    case measure => have := HJ6.out; have := HJ19.out; have := HK3.out; have := HK4.out; omega
                    case rel => exact ⟨(wrap64 (x12_4 + 1)), (by first | rfl | (simp; done) | (simp [*]; done)), H', ⟨by have := HJ6.out; have := HJ19.out; have := HK3.out; have := HK4.out; omega⟩, ⟨by (with_reducible repeat (first | apply Kd.R_alloc | apply Kd.R_drewN | apply Kd.R_drew)); exact HO_7.out⟩, ⟨by (with_reducible repeat (first | apply Kd.R_alloc | apply Kd.R_drewN | apply Kd.R_drew)); exact HO_8.out⟩, ⟨by repeat (first | (with_reducible first | exact HB.out | apply below_alloc | apply pw_below_drewN | apply below_drew1) | exact HB.out)⟩⟩
                  ·
                   rw [if_neg c33] at H
                   exact absurd H (by simp)
                 ·
                  rw [if_neg c32] at H
                  have c32b0 : decide ((rd t338 x12_4) < (rd t338 x11_3)) = false := decide_eq_false c32
                  clear c32
                  have H' := Aside0.mk H
                  clear H
                  have p350 : 0 ≤ (x11_3 : Int) := of_decide_eq_true (by first | (with_reducible assumption) | assumption)
                  have q350 : x11_3 < (t338.length : Int) := of_decide_eq_true (by first | (with_reducible assumption) | assumption)
                  obtain ⟨ad350, e350, hx350_0⟩ := Kd.at_int (Kd.R_reads' HO_7.out).2.2 x11_3 p350 q350
                  cases e350
                  replace p350 := eq_true p350
                  replace q350 := eq_true q350
                  have p351 : 0 ≤ (x12_4 : Int) := of_decide_eq_true (by first | (with_reducible assumption) | assumption)
                  have q351 : x12_4 < (t338.length : Int) := of_decide_eq_true (by first | (with_reducible assumption) | assumption)
                  obtain ⟨ad351, e351, hx351_0⟩ := Kd.at_int (Kd.R_reads' HO_7.out).2.2 x12_4 p351 q351
                  obtain rfl : ad350 = ad351 := (by injection e351)
                  replace p351 := eq_true p351
                  replace q351 := eq_true q351
                  go_wp2
                  repeat (go_quiet (fail); try go_wp2)
                  go_roundg k4
                  case measure => have := HJ6.out; have := HJ19.out; have := HK3.out; have := HK4.out; omega
                  case rel => exact ⟨(wrap64 (x12_4 + 1)), (by first | rfl | (simp; done) | (simp [*]; done)), H', ⟨by have := HJ6.out; have := HJ19.out; have := HK3.out; have := HK4.out; omega⟩, ⟨by (with_reducible repeat (first | apply Kd.R_alloc | apply Kd.R_drewN | apply Kd.R_drew)); exact HO_7.out⟩, ⟨by (with_reducible repeat (first | apply Kd.R_alloc | apply Kd.R_drewN | apply Kd.R_drew)); exact HO_8.out⟩, ⟨by repeat (first | (with_reducible first | exact HB.out | apply below_alloc | apply pw_below_drewN | apply below_drew1) | exact HB.out)⟩⟩
                ·
                 rw [if_neg c31] at H
                 exact absurd H (by simp)
               ·
                rw [if_neg c30] at H
                exact absurd H (by simp)
              ·
               rw [if_neg c29] at H
               exact absurd H (by simp)
             ·
              rw [if_neg c28] at H
              exact absurd H (by simp)
            ·
             rw [if_neg c27] at H
             have c27b0 : decide (x12_4 < (t342.length : Int)) = false := decide_eq_false c27
             clear c27
             have H' := Aside0.mk H
             clear H
             go_wp2
             repeat (go_quiet (fail); try go_wp2)
             go_roundg k4
             case measure => have := HJ6.out; have := HJ19.out; have := HK3.out; have := HK4.out; omega
             case rel => exact ⟨(wrap64 (x11_3 + 1)), (by first | rfl | (simp; done) | (simp [*]; done)), H', ⟨by have := HJ6.out; have := HJ19.out; have := HK3.out; have := HK4.out; omega⟩, ⟨by (with_reducible repeat (first | apply Kd.R_alloc | apply Kd.R_drewN | apply Kd.R_drew)); exact HO_7.out⟩, ⟨by (with_reducible repeat (first | apply Kd.R_alloc | apply Kd.R_drewN | apply Kd.R_drew)); exact HO_8.out⟩, ⟨by repeat (first | (with_reducible first | exact HB.out | apply below_alloc | apply pw_below_drewN | apply below_drew1) | exact HB.out)⟩⟩
         ·
          rw [if_neg c25] at H
          have c25b0 : decide (x11_3 < (t342.length : Int)) = false := decide_eq_false c25
          clear c25
          have H' := Aside0.mk H
          clear H
          obtain ⟨Ao35, co35, eo35⟩ := Kd.R_slice HO_8.out
          subst eo35
          go_wp2
          repeat (go_quiet (fail); try go_wp2)
          go_loopg [13, 14] k3 (fun kq v13 v14 w' => ∃ (x13_4 : List Int) (x14_4 : Int), v14 = .int .i64 x14_4 ∧ Aside0 (turndownlaw06_CodeFull.l2 kq (wrap64 (5 + t341)) l2 t338 t343 x13_4 x14_4 = some r) ∧ Aside0 (kq ≤ k3) ∧ Aside0 (Kd.R (Kd.int .i64) 3 w' w.heap.size (fun k_ => some k_ ≠ (v13 : Value).ownBlock) (.slice Ao9 t338.length co9) t338) ∧ Aside0 (Kd.R (Kd.int .i64) 3 w' w.heap.size (fun k_ => some k_ ≠ ((.slice Ao9 t338.length co9) : Value).ownBlock) v13 x13_4) ∧ Aside0 (Below w.heap.size w w'))
          case atStart => exact ⟨(([] : List Int)), (0), (by first | rfl | (simp; done) | (simp [*]; done)), H', ⟨Nat.le_refl _⟩, ⟨by (with_reducible repeat (first | apply Kd.R_alloc | apply Kd.R_drewN | apply Kd.R_drew)); exact Kd.R_mono HO_7.out (fun _ hk => (by simp [Value.ownBlock]))⟩, ⟨by first | exact Kd.R_nil _ _ _ _ _ | exact Kd.N_nil _ _ _ _ _ | exact Kd.V_nil _ _ _ _ _ | exact Kd.Q_nil _ _ _ _ _ | exact Kd.S_nil _ _ _ _ _⟩, ⟨by repeat (first | (with_reducible first | exact HB.out | apply below_alloc | apply pw_below_drewN | apply below_drew1) | exact HB.out)⟩⟩
          case round =>
           clear H'
           try clear c1
           try clear c2
           try clear p2
           try clear c3
           try clear p3
           try clear q3
           try clear hx3
           try clear p6
           try clear c8
           try clear c11
           try clear c11b0
           try clear c11b1
           try clear c12
           try clear c12b0
           try clear c12b1
           try clear c12b2
           try clear c14
           try clear c19
           try clear c21
           try clear c21b0
           try clear c21b1
           try clear c24
           try clear c25
           try clear c25b0
           try clear c27
           try clear c27b0
           try clear c28
           try clear c28b0
           try clear c29
           try clear c29b0
           try clear c30
           try clear c30b0
           try clear c31
           try clear c31b0
           try clear c32
           try clear c32b0
           try clear c33
           try clear c33b0
           try clear c34
           try clear c34b0
           try clear p35
           try clear q35
           try clear hx35
           try clear hx350_0
           try clear hx351_0
           try clear hx352_0
           try clear hx353_0
           try clear p2
           try clear p350
           try clear p351
           try clear p352
           try clear p353
           try clear p6
           try clear q350
           try clear q351
           try clear q352
           try clear q353
           obtain ⟨x13_4, x14_4, rfl, HA, HK4, HO_7, HO_13, HB⟩ := hrel
           cases gk with
           | zero => exact absurd HA.out (by simp [turndownlaw06_CodeFull.l2])
           | succ k4 =>
            have H := HA.out
            clear HA
            simp only [turndownlaw06_CodeFull.l2] at H
            by_cases c36 : x14_4 < (t338.length : Int)
            ·
             rw [if_pos c36] at H
             have c36b0 : decide (x14_4 < (t338.length : Int)) = true := decide_eq_true c36
             clear c36
             by_cases c37 : x14_4 < (l2.length : Int)
             ·
              rw [if_pos c37] at H
              have c37b0 : decide (x14_4 < (l2.length : Int)) = true := decide_eq_true c37
              clear c37
              by_cases c38 : 0 ≤ x14_4
              ·
               rw [if_pos c38] at H
               have c38b0 : decide (0 ≤ x14_4) = true := decide_eq_true c38
               clear c38
               replace H := Option.bind_eq_some_iff.mp H
               obtain ⟨t355, A390, H⟩ := H
               replace H : (if x13_4.length < 17592186044416 then (turndownlaw06_CodeFull.l2 k4 (wrap64 (5 + t341)) l2 t338 t343 (x13_4 ++ [t355]) (wrap64 (x14_4 + 1))) else (none)) = some r := H
               have A39 := Aside0.mk A390
               clear A390
               by_cases c40 : x13_4.length < 17592186044416
               ·
                rw [if_pos c40] at H
                have LMc40 := Aside0.mk c40
                clear c40
                obtain ⟨y356, hy356⟩ : ∃ y_ : List Int, y_ = (x13_4 ++ [t355]) := ⟨_, rfl⟩
                replace H : (turndownlaw06_CodeFull.l2 k4 (wrap64 (5 + t341)) l2 t338 t343 y356 (wrap64 (x14_4 + 1))) = some r := by first | (rw [hy356]; with_reducible exact H) | (have H2_ := (Option.bind_some _ _).symm.trans H; rw [hy356]; with_reducible exact H2_) | (have H2_ := (Option.bind_some _ _).symm.trans H; with_reducible exact H2_) | with_reducible exact H | (rw [hy356]; exact H) | exact H
                have Ny356 := Aside0.mk hy356
                clear hy356
                have H' := Aside0.mk H
                clear H
                have p354 : 0 ≤ (x14_4 : Int) := of_decide_eq_true (by first | (with_reducible assumption) | assumption)
                have q354 : x14_4 < (l2.length : Int) := of_decide_eq_true (by first | (with_reducible assumption) | assumption)
                obtain ⟨ad354, e354, hx354_0⟩ := Kd.at_int HR2.out x14_4 p354 q354
                cases e354
                replace hx354_0 := (HB.out.cell (World.block_lt_of_cell? w _ hx354_0)).trans hx354_0
                replace p354 := eq_true p354
                replace q354 := eq_true q354
                go_wp2_with (first | (go_at_call 39; (with_reducible refine (turndownlaw06_mod.calls (rd l2 x14_4) (wrap64 ((wrap64 (5 + t341)) + 1)) t355 _ A39.out).mono ?_); rintro e w' ⟨rfl, ⟨nd, rfl⟩⟩; (try first | exact ⟨rfl, _, World.drewN_drewN _ _ _⟩ | exact ⟨rfl, _, Eq.trans (World.drewN_drewN _ _ _) (congrArg (World.drewN _) (Nat.add_assoc _ _ _))⟩)) | ((with_reducible refine gate_builtin (b := .append) (xs := #[.tmp 107, .tmp 109]) rfl ?_); (try (refine gate_guard (by rfl) ?_; dsimp only)); at_builtin; refine Kd.R_append (Kd.int .i64) (w0 := w) w.heap.size rfl (.tmp 107) (.tmp 109) 22 3 (.int .i64 0) 8 rfl Try.underlying22 info3 rfl (by decide) (by omega) u13 x13_4 t355 [.int .i64 t355] (fun k_ => some k_ ≠ (.slice Ao9 t338.length co9 : Value).ownBlock) (fun _ => False) rfl rfl ?aP (fun _ hk => hk.elim) ?aF ?aO ?aB ?aS ?aL ?_; (case aP => exact rfl); (case aB => exact (by repeat (first | (with_reducible first | exact HB.out | apply below_alloc | apply pw_below_drewN | apply below_drew1) | exact HB.out))); (case aF => exact (fun k_ hk => Kd.fresh' (Kd.R_lt (by (with_reducible repeat (first | apply Kd.R_alloc | apply Kd.R_drewN | apply Kd.R_drew)); exact HO_7.out)) k_ hk)); (case aO => exact (by (with_reducible repeat (first | apply Kd.R_alloc | apply Kd.R_drewN | apply Kd.R_drew)); exact HO_13.out)); (case aS => exact (below_size (by repeat (first | (with_reducible first | exact HB.out | apply below_alloc | apply pw_below_drewN | apply below_drew1) | exact HB.out)))); (case aL => have := LMc40.out; omega); intro v357 w41 ho hb hg hat; rw [← Ny356.out] at ho; have n0_ := Aside0.mk (Kd.R_after (ok := (fun _ => True)) (by (with_reducible repeat (first | apply Kd.R_alloc | apply Kd.R_drewN | apply Kd.R_drew)); exact Kd.R_mono HO_7.out (fun _ hk => ⟨trivial, hk⟩)) hg hat); have n1_ := Aside0.mk (hb); have n2_ := Aside0.mk (ho); clear HO_7; clear HB; clear HO_13; have HO_7 := n0_; have HB := n1_; have HO358 := n2_; clear n0_ n1_ n2_; clear ho hb hg hat))
                repeat (go_quiet (first | (go_at_call 39; (with_reducible refine (turndownlaw06_mod.calls (rd l2 x14_4) (wrap64 ((wrap64 (5 + t341)) + 1)) t355 _ A39.out).mono ?_); rintro e w' ⟨rfl, ⟨nd, rfl⟩⟩; (try first | exact ⟨rfl, _, World.drewN_drewN _ _ _⟩ | exact ⟨rfl, _, Eq.trans (World.drewN_drewN _ _ _) (congrArg (World.drewN _) (Nat.add_assoc _ _ _))⟩)) | ((with_reducible refine gate_builtin (b := .append) (xs := #[.tmp 107, .tmp 109]) rfl ?_); (try (refine gate_guard (by rfl) ?_; dsimp only)); at_builtin; refine Kd.R_append (Kd.int .i64) (w0 := w) w.heap.size rfl (.tmp 107) (.tmp 109) 22 3 (.int .i64 0) 8 rfl Try.underlying22 info3 rfl (by decide) (by omega) u13 x13_4 t355 [.int .i64 t355] (fun k_ => some k_ ≠ (.slice Ao9 t338.length co9 : Value).ownBlock) (fun _ => False) rfl rfl ?aP (fun _ hk => hk.elim) ?aF ?aO ?aB ?aS ?aL ?_; (case aP => exact rfl); (case aB => exact (by repeat (first | (with_reducible first | exact HB.out | apply below_alloc | apply pw_below_drewN | apply below_drew1) | exact HB.out))); (case aF => exact (fun k_ hk => Kd.fresh' (Kd.R_lt (by (with_reducible repeat (first | apply Kd.R_alloc | apply Kd.R_drewN | apply Kd.R_drew)); exact HO_7.out)) k_ hk)); (case aO => exact (by (with_reducible repeat (first | apply Kd.R_alloc | apply Kd.R_drewN | apply Kd.R_drew)); exact HO_13.out)); (case aS => exact (below_size (by repeat (first | (with_reducible first | exact HB.out | apply below_alloc | apply pw_below_drewN | apply below_drew1) | exact HB.out)))); (case aL => have := LMc40.out; omega); intro v357 w41 ho hb hg hat; rw [← Ny356.out] at ho; have n0_ := Aside0.mk (Kd.R_after (ok := (fun _ => True)) (by (with_reducible repeat (first | apply Kd.R_alloc | apply Kd.R_drewN | apply Kd.R_drew)); exact Kd.R_mono HO_7.out (fun _ hk => ⟨trivial, hk⟩)) hg hat); have n1_ := Aside0.mk (hb); have n2_ := Aside0.mk (ho); clear HO_7; clear HB; clear HO_13; have HO_7 := n0_; have HB := n1_; have HO358 := n2_; clear n0_ n1_ n2_; clear ho hb hg hat)); try go_wp2_with (first | (go_at_call 39; (with_reducible refine (turndownlaw06_mod.calls (rd l2 x14_4) (wrap64 ((wrap64 (5 + t341)) + 1)) t355 _ A39.out).mono ?_); rintro e w' ⟨rfl, ⟨nd, rfl⟩⟩; (try first | exact ⟨rfl, _, World.drewN_drewN _ _ _⟩ | exact ⟨rfl, _, Eq.trans (World.drewN_drewN _ _ _) (congrArg (World.drewN _) (Nat.add_assoc _ _ _))⟩)) | ((with_reducible refine gate_builtin (b := .append) (xs := #[.tmp 107, .tmp 109]) rfl ?_); (try (refine gate_guard (by rfl) ?_; dsimp only)); at_builtin; refine Kd.R_append (Kd.int .i64) (w0 := w) w.heap.size rfl (.tmp 107) (.tmp 109) 22 3 (.int .i64 0) 8 rfl Try.underlying22 info3 rfl (by decide) (by omega) u13 x13_4 t355 [.int .i64 t355] (fun k_ => some k_ ≠ (.slice Ao9 t338.length co9 : Value).ownBlock) (fun _ => False) rfl rfl ?aP (fun _ hk => hk.elim) ?aF ?aO ?aB ?aS ?aL ?_; (case aP => exact rfl); (case aB => exact (by repeat (first | (with_reducible first | exact HB.out | apply below_alloc | apply pw_below_drewN | apply below_drew1) | exact HB.out))); (case aF => exact (fun k_ hk => Kd.fresh' (Kd.R_lt (by (with_reducible repeat (first | apply Kd.R_alloc | apply Kd.R_drewN | apply Kd.R_drew)); exact HO_7.out)) k_ hk)); (case aO => exact (by (with_reducible repeat (first | apply Kd.R_alloc | apply Kd.R_drewN | apply Kd.R_drew)); exact HO_13.out)); (case aS => exact (below_size (by repeat (first | (with_reducible first | exact HB.out | apply below_alloc | apply pw_below_drewN | apply below_drew1) | exact HB.out)))); (case aL => have := LMc40.out; omega); intro v357 w41 ho hb hg hat; rw [← Ny356.out] at ho; have n0_ := Aside0.mk (Kd.R_after (ok := (fun _ => True)) (by (with_reducible repeat (first | apply Kd.R_alloc | apply Kd.R_drewN | apply Kd.R_drew)); exact Kd.R_mono HO_7.out (fun _ hk => ⟨trivial, hk⟩)) hg hat); have n1_ := Aside0.mk (hb); have n2_ := Aside0.mk (ho); clear HO_7; clear HB; clear HO_13; have HO_7 := n0_; have HB := n1_; have HO358 := n2_; clear n0_ n1_ n2_; clear ho hb hg hat)))
                go_roundg k4
                case measure => have := HJ6.out; have := HJ19.out; have := HK3.out; have := HK4.out; omega
                case rel => exact ⟨(y356), (wrap64 (x14_4 + 1)), (by first | rfl | (simp; done) | (simp [*]; done)), H', ⟨by have := HJ6.out; have := HJ19.out; have := HK3.out; have := HK4.out; omega⟩, ⟨by (with_reducible repeat (first | apply Kd.R_alloc | apply Kd.R_drewN | apply Kd.R_drew)); exact Kd.R_mono HO_7.out (fun _ hk => hk.2)⟩, ⟨by (with_reducible repeat (first | apply Kd.R_alloc | apply Kd.R_drewN | apply Kd.R_drew)); exact HO358.out⟩, ⟨by repeat (first | (with_reducible first | exact HB.out | apply below_alloc | apply pw_below_drewN | apply below_drew1) | exact HB.out)⟩⟩
               ·
                rw [if_neg c40] at H
                exact absurd H (by simp)
              ·
               rw [if_neg c38] at H
               exact absurd H (by simp)
             ·
              rw [if_neg c37] at H
              have c37b0 : decide (x14_4 < (l2.length : Int)) = false := decide_eq_false c37
              clear c37
              by_cases c42 : x13_4.length < 17592186044416
              ·
               rw [if_pos c42] at H
               have LMc42 := Aside0.mk c42
               clear c42
               obtain ⟨y359, hy359⟩ : ∃ y_ : List Int, y_ = (x13_4 ++ [(wrap64 (5 + t341))]) := ⟨_, rfl⟩
               replace H : (turndownlaw06_CodeFull.l2 k4 (wrap64 (5 + t341)) l2 t338 t343 y359 (wrap64 (x14_4 + 1))) = some r := by first | (rw [hy359]; with_reducible exact H) | (have H2_ := (Option.bind_some _ _).symm.trans H; rw [hy359]; with_reducible exact H2_) | (have H2_ := (Option.bind_some _ _).symm.trans H; with_reducible exact H2_) | with_reducible exact H | (rw [hy359]; exact H) | exact H
               have Ny359 := Aside0.mk hy359
               clear hy359
               have H' := Aside0.mk H
               clear H
               go_wp2_with (first | ((with_reducible refine gate_builtin (b := .append) (xs := #[.tmp 107, .tmp 109]) rfl ?_); (try (refine gate_guard (by rfl) ?_; dsimp only)); at_builtin; refine Kd.R_append (Kd.int .i64) (w0 := w) w.heap.size rfl (.tmp 107) (.tmp 109) 22 3 (.int .i64 0) 8 rfl Try.underlying22 info3 rfl (by decide) (by omega) u13 x13_4 (wrap64 (5 + t341)) [.int .i64 (wrap64 (5 + t341))] (fun k_ => some k_ ≠ (.slice Ao9 t338.length co9 : Value).ownBlock) (fun _ => False) rfl rfl ?aP (fun _ hk => hk.elim) ?aF ?aO ?aB ?aS ?aL ?_; (case aP => exact rfl); (case aB => exact (by repeat (first | (with_reducible first | exact HB.out | apply below_alloc | apply pw_below_drewN | apply below_drew1) | exact HB.out))); (case aF => exact (fun k_ hk => Kd.fresh' (Kd.R_lt (by (with_reducible repeat (first | apply Kd.R_alloc | apply Kd.R_drewN | apply Kd.R_drew)); exact HO_7.out)) k_ hk)); (case aO => exact (by (with_reducible repeat (first | apply Kd.R_alloc | apply Kd.R_drewN | apply Kd.R_drew)); exact HO_13.out)); (case aS => exact (below_size (by repeat (first | (with_reducible first | exact HB.out | apply below_alloc | apply pw_below_drewN | apply below_drew1) | exact HB.out)))); (case aL => have := LMc42.out; omega); intro v360 w43 ho hb hg hat; rw [← Ny359.out] at ho; have n0_ := Aside0.mk (Kd.R_after (ok := (fun _ => True)) (by (with_reducible repeat (first | apply Kd.R_alloc | apply Kd.R_drewN | apply Kd.R_drew)); exact Kd.R_mono HO_7.out (fun _ hk => ⟨trivial, hk⟩)) hg hat); have n1_ := Aside0.mk (hb); have n2_ := Aside0.mk (ho); clear HO_7; clear HB; clear HO_13; have HO_7 := n0_; have HB := n1_; have HO361 := n2_; clear n0_ n1_ n2_; clear ho hb hg hat))
               repeat (go_quiet (first | ((with_reducible refine gate_builtin (b := .append) (xs := #[.tmp 107, .tmp 109]) rfl ?_); (try (refine gate_guard (by rfl) ?_; dsimp only)); at_builtin; refine Kd.R_append (Kd.int .i64) (w0 := w) w.heap.size rfl (.tmp 107) (.tmp 109) 22 3 (.int .i64 0) 8 rfl Try.underlying22 info3 rfl (by decide) (by omega) u13 x13_4 (wrap64 (5 + t341)) [.int .i64 (wrap64 (5 + t341))] (fun k_ => some k_ ≠ (.slice Ao9 t338.length co9 : Value).ownBlock) (fun _ => False) rfl rfl ?aP (fun _ hk => hk.elim) ?aF ?aO ?aB ?aS ?aL ?_; (case aP => exact rfl); (case aB => exact (by repeat (first | (with_reducible first | exact HB.out | apply below_alloc | apply pw_below_drewN | apply below_drew1) | exact HB.out))); (case aF => exact (fun k_ hk => Kd.fresh' (Kd.R_lt (by (with_reducible repeat (first | apply Kd.R_alloc | apply Kd.R_drewN | apply Kd.R_drew)); exact HO_7.out)) k_ hk)); (case aO => exact (by (with_reducible repeat (first | apply Kd.R_alloc | apply Kd.R_drewN | apply Kd.R_drew)); exact HO_13.out)); (case aS => exact (below_size (by repeat (first | (with_reducible first | exact HB.out | apply below_alloc | apply pw_below_drewN | apply below_drew1) | exact HB.out)))); (case aL => have := LMc42.out; omega); intro v360 w43 ho hb hg hat; rw [← Ny359.out] at ho; have n0_ := Aside0.mk (Kd.R_after (ok := (fun _ => True)) (by (with_reducible repeat (first | apply Kd.R_alloc | apply Kd.R_drewN | apply Kd.R_drew)); exact Kd.R_mono HO_7.out (fun _ hk => ⟨trivial, hk⟩)) hg hat); have n1_ := Aside0.mk (hb); have n2_ := Aside0.mk (ho); clear HO_7; clear HB; clear HO_13; have HO_7 := n0_; have HB := n1_; have HO361 := n2_; clear n0_ n1_ n2_; clear ho hb hg hat)); try go_wp2_with (first | ((with_reducible refine gate_builtin (b := .append) (xs := #[.tmp 107, .tmp 109]) rfl ?_); (try (refine gate_guard (by rfl) ?_; dsimp only)); at_builtin; refine Kd.R_append (Kd.int .i64) (w0 := w) w.heap.size rfl (.tmp 107) (.tmp 109) 22 3 (.int .i64 0) 8 rfl Try.underlying22 info3 rfl (by decide) (by omega) u13 x13_4 (wrap64 (5 + t341)) [.int .i64 (wrap64 (5 + t341))] (fun k_ => some k_ ≠ (.slice Ao9 t338.length co9 : Value).ownBlock) (fun _ => False) rfl rfl ?aP (fun _ hk => hk.elim) ?aF ?aO ?aB ?aS ?aL ?_; (case aP => exact rfl); (case aB => exact (by repeat (first | (with_reducible first | exact HB.out | apply below_alloc | apply pw_below_drewN | apply below_drew1) | exact HB.out))); (case aF => exact (fun k_ hk => Kd.fresh' (Kd.R_lt (by (with_reducible repeat (first | apply Kd.R_alloc | apply Kd.R_drewN | apply Kd.R_drew)); exact HO_7.out)) k_ hk)); (case aO => exact (by (with_reducible repeat (first | apply Kd.R_alloc | apply Kd.R_drewN | apply Kd.R_drew)); exact HO_13.out)); (case aS => exact (below_size (by repeat (first | (with_reducible first | exact HB.out | apply below_alloc | apply pw_below_drewN | apply below_drew1) | exact HB.out)))); (case aL => have := LMc42.out; omega); intro v360 w43 ho hb hg hat; rw [← Ny359.out] at ho; have n0_ := Aside0.mk (Kd.R_after (ok := (fun _ => True)) (by (with_reducible repeat (first | apply Kd.R_alloc | apply Kd.R_drewN | apply Kd.R_drew)); exact Kd.R_mono HO_7.out (fun _ hk => ⟨trivial, hk⟩)) hg hat); have n1_ := Aside0.mk (hb); have n2_ := Aside0.mk (ho); clear HO_7; clear HB; clear HO_13; have HO_7 := n0_; have HB := n1_; have HO361 := n2_; clear n0_ n1_ n2_; clear ho hb hg hat)))
               go_roundg k4
               case measure => have := HJ6.out; have := HJ19.out; have := HK3.out; have := HK4.out; omega
               case rel => exact ⟨(y359), (wrap64 (x14_4 + 1)), (by first | rfl | (simp; done) | (simp [*]; done)), H', ⟨by have := HJ6.out; have := HJ19.out; have := HK3.out; have := HK4.out; omega⟩, ⟨by (with_reducible repeat (first | apply Kd.R_alloc | apply Kd.R_drewN | apply Kd.R_drew)); exact Kd.R_mono HO_7.out (fun _ hk => hk.2)⟩, ⟨by (with_reducible repeat (first | apply Kd.R_alloc | apply Kd.R_drewN | apply Kd.R_drew)); exact HO361.out⟩, ⟨by repeat (first | (with_reducible first | exact HB.out | apply below_alloc | apply pw_below_drewN | apply below_drew1) | exact HB.out)⟩⟩
              ·
               rw [if_neg c42] at H
               exact absurd H (by simp)
            ·
             rw [if_neg c36] at H
             have c36b0 : decide (x14_4 < (t338.length : Int)) = false := decide_eq_false c36
             clear c36
             replace H := Option.bind_eq_some_iff.mp H
             obtain ⟨t362, A440, H⟩ := H
             replace H : (if t362 = true then ((turndownref06_Cost.f k4 t338 x13_4).bind fun t363 => (if t363 ≥ t343 then ((turndownlaw06_awake.f k4).bind fun t364 => (some t364)) else (some false))) else ((turndownlaw06_awake.f k4).bind fun t365 => (some t365))) = some r := H
             have A44 := Aside0.mk A440
             clear A440
             by_cases c45 : t362 = true
             ·
              subst c45
              have H1 : ((turndownref06_Cost.f k4 t338 x13_4).bind fun t363 => (if t363 ≥ t343 then ((turndownlaw06_awake.f k4).bind fun t364 => (some t364)) else (some false))) = some r := by rw [if_pos rfl] at H; exact H
              clear H
              have H := H1
              clear H1
              replace H := Option.bind_eq_some_iff.mp H
              obtain ⟨t363, A460, H⟩ := H
              replace H : (if t363 ≥ t343 then ((turndownlaw06_awake.f k4).bind fun t364 => (some t364)) else (some false)) = some r := H
              have A46 := Aside0.mk A460
              clear A460
              by_cases c47 : t363 ≥ t343
              ·
               rw [if_pos c47] at H
               have c47b0 : decide (t343 ≤ t363) = true := decide_eq_true c47
               clear c47
               replace H := Option.bind_eq_some_iff.mp H
               obtain ⟨t364, A480, H⟩ := H
               replace H : (some t364) = some r := H
               have A48 := Aside0.mk A480
               clear A480
               obtain rfl := Option.some.inj H
               obtain ⟨Ao49, co49, eo49⟩ := Kd.R_slice HO_13.out
               subst eo49
               go_wp2_with (first | (go_at_call 25; (with_reducible refine (turndownref06_Possible.calls k4 _ _ x13_4 true _ ?side1 ?side2 A44.out).mono ?_); (case side1 => repeat (first | exact (Kd.R_reads' HO_13.out).2.2 | (with_reducible refine Kd.C_alloc ?_ _) | (with_reducible refine Kd.C_drewN ?_ _) | (with_reducible refine Kd.C_drew ?_))); (case side2 => exact (Kd.R_reads' HO_13.out).2.1); rintro e w' ⟨rfl, ⟨nd, rfl⟩⟩; (try first | exact ⟨rfl, _, World.drewN_drewN _ _ _⟩ | exact ⟨rfl, _, Eq.trans (World.drewN_drewN _ _ _) (congrArg (World.drewN _) (Nat.add_assoc _ _ _))⟩)) | (go_at_call 26; (with_reducible refine (turndownref06_Cost.calls k4 _ _ t338 _ _ x13_4 t363 _ ?side1 ?side2 ?side3 ?side4 A46.out).mono ?_); (case side1 => repeat (first | exact (Kd.R_reads' HO_7.out).2.2 | (with_reducible refine Kd.C_alloc ?_ _) | (with_reducible refine Kd.C_drewN ?_ _) | (with_reducible refine Kd.C_drew ?_))); (case side2 => exact (Kd.R_reads' HO_7.out).2.1); (case side3 => repeat (first | exact (Kd.R_reads' HO_13.out).2.2 | (with_reducible refine Kd.C_alloc ?_ _) | (with_reducible refine Kd.C_drewN ?_ _) | (with_reducible refine Kd.C_drew ?_))); (case side4 => exact (Kd.R_reads' HO_13.out).2.1); rintro e w' ⟨rfl, ⟨nd, rfl⟩⟩; (try first | exact ⟨rfl, _, World.drewN_drewN _ _ _⟩ | exact ⟨rfl, _, Eq.trans (World.drewN_drewN _ _ _) (congrArg (World.drewN _) (Nat.add_assoc _ _ _))⟩)) | (go_at_call 22; (with_reducible refine (turndownlaw06_awake.calls k4  t364 _ A48.out).mono ?_); rintro e w50 ⟨rfl, hb⟩; have n0_ := Aside0.mk (Kd.R_below (by (with_reducible repeat (first | apply Kd.R_alloc | apply Kd.R_drewN | apply Kd.R_drew)); exact HO_7.out) hb); have n1_ := Aside0.mk (Kd.R_below (by (with_reducible repeat (first | apply Kd.R_alloc | apply Kd.R_drewN | apply Kd.R_drew)); exact HO_13.out) hb); have n2_ := Aside0.mk (below_step (by repeat (first | (with_reducible first | exact HB.out | apply below_alloc | apply pw_below_drewN | apply below_drew1) | exact HB.out)) hb); clear HO_7; clear HO_13; clear HB; have HO_7 := n0_; have HO_13 := n1_; have HB := n2_; clear n0_ n1_ n2_; (try clear hb); (try clear hb2); (try clear hk); (try clear hi)))
               repeat (go_quiet (first | (go_at_call 25; (with_reducible refine (turndownref06_Possible.calls k4 _ _ x13_4 true _ ?side1 ?side2 A44.out).mono ?_); (case side1 => repeat (first | exact (Kd.R_reads' HO_13.out).2.2 | (with_reducible refine Kd.C_alloc ?_ _) | (with_reducible refine Kd.C_drewN ?_ _) | (with_reducible refine Kd.C_drew ?_))); (case side2 => exact (Kd.R_reads' HO_13.out).2.1); rintro e w' ⟨rfl, ⟨nd, rfl⟩⟩; (try first | exact ⟨rfl, _, World.drewN_drewN _ _ _⟩ | exact ⟨rfl, _, Eq.trans (World.drewN_drewN _ _ _) (congrArg (World.drewN _) (Nat.add_assoc _ _ _))⟩)) | (go_at_call 26; (with_reducible refine (turndownref06_Cost.calls k4 _ _ t338 _ _ x13_4 t363 _ ?side1 ?side2 ?side3 ?side4 A46.out).mono ?_); (case side1 => repeat (first | exact (Kd.R_reads' HO_7.out).2.2 | (with_reducible refine Kd.C_alloc ?_ _) | (with_reducible refine Kd.C_drewN ?_ _) | (with_reducible refine Kd.C_drew ?_))); (case side2 => exact (Kd.R_reads' HO_7.out).2.1); (case side3 => repeat (first | exact (Kd.R_reads' HO_13.out).2.2 | (with_reducible refine Kd.C_alloc ?_ _) | (with_reducible refine Kd.C_drewN ?_ _) | (with_reducible refine Kd.C_drew ?_))); (case side4 => exact (Kd.R_reads' HO_13.out).2.1); rintro e w' ⟨rfl, ⟨nd, rfl⟩⟩; (try first | exact ⟨rfl, _, World.drewN_drewN _ _ _⟩ | exact ⟨rfl, _, Eq.trans (World.drewN_drewN _ _ _) (congrArg (World.drewN _) (Nat.add_assoc _ _ _))⟩)) | (go_at_call 22; (with_reducible refine (turndownlaw06_awake.calls k4  t364 _ A48.out).mono ?_); rintro e w50 ⟨rfl, hb⟩; have n0_ := Aside0.mk (Kd.R_below (by (with_reducible repeat (first | apply Kd.R_alloc | apply Kd.R_drewN | apply Kd.R_drew)); exact HO_7.out) hb); have n1_ := Aside0.mk (Kd.R_below (by (with_reducible repeat (first | apply Kd.R_alloc | apply Kd.R_drewN | apply Kd.R_drew)); exact HO_13.out) hb); have n2_ := Aside0.mk (below_step (by repeat (first | (with_reducible first | exact HB.out | apply below_alloc | apply pw_below_drewN | apply below_drew1) | exact HB.out)) hb); clear HO_7; clear HO_13; clear HB; have HO_7 := n0_; have HO_13 := n1_; have HB := n2_; clear n0_ n1_ n2_; (try clear hb); (try clear hb2); (try clear hk); (try clear hi))); try go_wp2_with (first | (go_at_call 25; (with_reducible refine (turndownref06_Possible.calls k4 _ _ x13_4 true _ ?side1 ?side2 A44.out).mono ?_); (case side1 => repeat (first | exact (Kd.R_reads' HO_13.out).2.2 | (with_reducible refine Kd.C_alloc ?_ _) | (with_reducible refine Kd.C_drewN ?_ _) | (with_reducible refine Kd.C_drew ?_))); (case side2 => exact (Kd.R_reads' HO_13.out).2.1); rintro e w' ⟨rfl, ⟨nd, rfl⟩⟩; (try first | exact ⟨rfl, _, World.drewN_drewN _ _ _⟩ | exact ⟨rfl, _, Eq.trans (World.drewN_drewN _ _ _) (congrArg (World.drewN _) (Nat.add_assoc _ _ _))⟩)) | (go_at_call 26; (with_reducible refine (turndownref06_Cost.calls k4 _ _ t338 _ _ x13_4 t363 _ ?side1 ?side2 ?side3 ?side4 A46.out).mono ?_); (case side1 => repeat (first | exact (Kd.R_reads' HO_7.out).2.2 | (with_reducible refine Kd.C_alloc ?_ _) | (with_reducible refine Kd.C_drewN ?_ _) | (with_reducible refine Kd.C_drew ?_))); (case side2 => exact (Kd.R_reads' HO_7.out).2.1); (case side3 => repeat (first | exact (Kd.R_reads' HO_13.out).2.2 | (with_reducible refine Kd.C_alloc ?_ _) | (with_reducible refine Kd.C_drewN ?_ _) | (with_reducible refine Kd.C_drew ?_))); (case side4 => exact (Kd.R_reads' HO_13.out).2.1); rintro e w' ⟨rfl, ⟨nd, rfl⟩⟩; (try first | exact ⟨rfl, _, World.drewN_drewN _ _ _⟩ | exact ⟨rfl, _, Eq.trans (World.drewN_drewN _ _ _) (congrArg (World.drewN _) (Nat.add_assoc _ _ _))⟩)) | (go_at_call 22; (with_reducible refine (turndownlaw06_awake.calls k4  t364 _ A48.out).mono ?_); rintro e w50 ⟨rfl, hb⟩; have n0_ := Aside0.mk (Kd.R_below (by (with_reducible repeat (first | apply Kd.R_alloc | apply Kd.R_drewN | apply Kd.R_drew)); exact HO_7.out) hb); have n1_ := Aside0.mk (Kd.R_below (by (with_reducible repeat (first | apply Kd.R_alloc | apply Kd.R_drewN | apply Kd.R_drew)); exact HO_13.out) hb); have n2_ := Aside0.mk (below_step (by repeat (first | (with_reducible first | exact HB.out | apply below_alloc | apply pw_below_drewN | apply below_drew1) | exact HB.out)) hb); clear HO_7; clear HO_13; clear HB; have HO_7 := n0_; have HO_13 := n1_; have HB := n2_; clear n0_ n1_ n2_; (try clear hb); (try clear hb2); (try clear hk); (try clear hi))))
               go_ret
               exact ⟨by first | rfl | (simp [errW_none, errW_some] <;> rfl) | (simp [*, errW_none, errW_some] <;> rfl), by repeat (first | (with_reducible first | exact HB.out | apply below_alloc | apply pw_below_drewN | apply below_drew1) | exact HB.out)⟩
              ·
               rw [if_neg c47] at H
               have c47b0 : decide (t343 ≤ t363) = false := decide_eq_false c47
               clear c47
               obtain rfl := Option.some.inj H
               obtain ⟨Ao51, co51, eo51⟩ := Kd.R_slice HO_13.out
               subst eo51
               go_wp2_with (first | (go_at_call 25; (with_reducible refine (turndownref06_Possible.calls k4 _ _ x13_4 true _ ?side1 ?side2 A44.out).mono ?_); (case side1 => repeat (first | exact (Kd.R_reads' HO_13.out).2.2 | (with_reducible refine Kd.C_alloc ?_ _) | (with_reducible refine Kd.C_drewN ?_ _) | (with_reducible refine Kd.C_drew ?_))); (case side2 => exact (Kd.R_reads' HO_13.out).2.1); rintro e w' ⟨rfl, ⟨nd, rfl⟩⟩; (try first | exact ⟨rfl, _, World.drewN_drewN _ _ _⟩ | exact ⟨rfl, _, Eq.trans (World.drewN_drewN _ _ _) (congrArg (World.drewN _) (Nat.add_assoc _ _ _))⟩)) | (go_at_call 26; (with_reducible refine (turndownref06_Cost.calls k4 _ _ t338 _ _ x13_4 t363 _ ?side1 ?side2 ?side3 ?side4 A46.out).mono ?_); (case side1 => repeat (first | exact (Kd.R_reads' HO_7.out).2.2 | (with_reducible refine Kd.C_alloc ?_ _) | (with_reducible refine Kd.C_drewN ?_ _) | (with_reducible refine Kd.C_drew ?_))); (case side2 => exact (Kd.R_reads' HO_7.out).2.1); (case side3 => repeat (first | exact (Kd.R_reads' HO_13.out).2.2 | (with_reducible refine Kd.C_alloc ?_ _) | (with_reducible refine Kd.C_drewN ?_ _) | (with_reducible refine Kd.C_drew ?_))); (case side4 => exact (Kd.R_reads' HO_13.out).2.1); rintro e w' ⟨rfl, ⟨nd, rfl⟩⟩; (try first | exact ⟨rfl, _, World.drewN_drewN _ _ _⟩ | exact ⟨rfl, _, Eq.trans (World.drewN_drewN _ _ _) (congrArg (World.drewN _) (Nat.add_assoc _ _ _))⟩)))
               repeat (go_quiet (first | (go_at_call 25; (with_reducible refine (turndownref06_Possible.calls k4 _ _ x13_4 true _ ?side1 ?side2 A44.out).mono ?_); (case side1 => repeat (first | exact (Kd.R_reads' HO_13.out).2.2 | (with_reducible refine Kd.C_alloc ?_ _) | (with_reducible refine Kd.C_drewN ?_ _) | (with_reducible refine Kd.C_drew ?_))); (case side2 => exact (Kd.R_reads' HO_13.out).2.1); rintro e w' ⟨rfl, ⟨nd, rfl⟩⟩; (try first | exact ⟨rfl, _, World.drewN_drewN _ _ _⟩ | exact ⟨rfl, _, Eq.trans (World.drewN_drewN _ _ _) (congrArg (World.drewN _) (Nat.add_assoc _ _ _))⟩)) | (go_at_call 26; (with_reducible refine (turndownref06_Cost.calls k4 _ _ t338 _ _ x13_4 t363 _ ?side1 ?side2 ?side3 ?side4 A46.out).mono ?_); (case side1 => repeat (first | exact (Kd.R_reads' HO_7.out).2.2 | (with_reducible refine Kd.C_alloc ?_ _) | (with_reducible refine Kd.C_drewN ?_ _) | (with_reducible refine Kd.C_drew ?_))); (case side2 => exact (Kd.R_reads' HO_7.out).2.1); (case side3 => repeat (first | exact (Kd.R_reads' HO_13.out).2.2 | (with_reducible refine Kd.C_alloc ?_ _) | (with_reducible refine Kd.C_drewN ?_ _) | (with_reducible refine Kd.C_drew ?_))); (case side4 => exact (Kd.R_reads' HO_13.out).2.1); rintro e w' ⟨rfl, ⟨nd, rfl⟩⟩; (try first | exact ⟨rfl, _, World.drewN_drewN _ _ _⟩ | exact ⟨rfl, _, Eq.trans (World.drewN_drewN _ _ _) (congrArg (World.drewN _) (Nat.add_assoc _ _ _))⟩))); try go_wp2_with (first | (go_at_call 25; (with_reducible refine (turndownref06_Possible.calls k4 _ _ x13_4 true _ ?side1 ?side2 A44.out).mono ?_); (case side1 => repeat (first | exact (Kd.R_reads' HO_13.out).2.2 | (with_reducible refine Kd.C_alloc ?_ _) | (with_reducible refine Kd.C_drewN ?_ _) | (with_reducible refine Kd.C_drew ?_))); (case side2 => exact (Kd.R_reads' HO_13.out).2.1); rintro e w' ⟨rfl, ⟨nd, rfl⟩⟩; (try first | exact ⟨rfl, _, World.drewN_drewN _ _ _⟩ | exact ⟨rfl, _, Eq.trans (World.drewN_drewN _ _ _) (congrArg (World.drewN _) (Nat.add_assoc _ _ _))⟩)) | (go_at_call 26; (with_reducible refine (turndownref06_Cost.calls k4 _ _ t338 _ _ x13_4 t363 _ ?side1 ?side2 ?side3 ?side4 A46.out).mono ?_); (case side1 => repeat (first | exact (Kd.R_reads' HO_7.out).2.2 | (with_reducible refine Kd.C_alloc ?_ _) | (with_reducible refine Kd.C_drewN ?_ _) | (with_reducible refine Kd.C_drew ?_))); (case side2 => exact (Kd.R_reads' HO_7.out).2.1); (case side3 => repeat (first | exact (Kd.R_reads' HO_13.out).2.2 | (with_reducible refine Kd.C_alloc ?_ _) | (with_reducible refine Kd.C_drewN ?_ _) | (with_reducible refine Kd.C_drew ?_))); (case side4 => exact (Kd.R_reads' HO_13.out).2.1); rintro e w' ⟨rfl, ⟨nd, rfl⟩⟩; (try first | exact ⟨rfl, _, World.drewN_drewN _ _ _⟩ | exact ⟨rfl, _, Eq.trans (World.drewN_drewN _ _ _) (congrArg (World.drewN _) (Nat.add_assoc _ _ _))⟩))))
               go_ret
               exact ⟨by first | rfl | (simp [errW_none, errW_some] <;> rfl) | (simp [*, errW_none, errW_some] <;> rfl), by repeat (first | (with_reducible first | exact HB.out | apply below_alloc | apply pw_below_drewN | apply below_drew1) | exact HB.out)⟩
             ·
              replace c45 := Bool.eq_false_iff.mpr c45
              subst c45
              have H1 : ((turndownlaw06_awake.f k4).bind fun t365 => (some t365)) = some r := by rw [if_neg (show ¬ (false = true) by decide)] at H; exact H
              clear H
              have H := H1
              clear H1
              replace H := Option.bind_eq_some_iff.mp H
              obtain ⟨t365, A520, H⟩ := H
              replace H : (some t365) = some r := H
              have A52 := Aside0.mk A520
              clear A520
              obtain rfl := Option.some.inj H
              obtain ⟨Ao53, co53, eo53⟩ := Kd.R_slice HO_13.out
              subst eo53
              go_wp2_with (first | (go_at_call 25; (with_reducible refine (turndownref06_Possible.calls k4 _ _ x13_4 false _ ?side1 ?side2 A44.out).mono ?_); (case side1 => repeat (first | exact (Kd.R_reads' HO_13.out).2.2 | (with_reducible refine Kd.C_alloc ?_ _) | (with_reducible refine Kd.C_drewN ?_ _) | (with_reducible refine Kd.C_drew ?_))); (case side2 => exact (Kd.R_reads' HO_13.out).2.1); rintro e w' ⟨rfl, ⟨nd, rfl⟩⟩; (try first | exact ⟨rfl, _, World.drewN_drewN _ _ _⟩ | exact ⟨rfl, _, Eq.trans (World.drewN_drewN _ _ _) (congrArg (World.drewN _) (Nat.add_assoc _ _ _))⟩)) | (go_at_call 22; (with_reducible refine (turndownlaw06_awake.calls k4  t365 _ A52.out).mono ?_); rintro e w54 ⟨rfl, hb⟩; have n0_ := Aside0.mk (Kd.R_below (by (with_reducible repeat (first | apply Kd.R_alloc | apply Kd.R_drewN | apply Kd.R_drew)); exact HO_7.out) hb); have n1_ := Aside0.mk (Kd.R_below (by (with_reducible repeat (first | apply Kd.R_alloc | apply Kd.R_drewN | apply Kd.R_drew)); exact HO_13.out) hb); have n2_ := Aside0.mk (below_step (by repeat (first | (with_reducible first | exact HB.out | apply below_alloc | apply pw_below_drewN | apply below_drew1) | exact HB.out)) hb); clear HO_7; clear HO_13; clear HB; have HO_7 := n0_; have HO_13 := n1_; have HB := n2_; clear n0_ n1_ n2_; (try clear hb); (try clear hb2); (try clear hk); (try clear hi)))
              repeat (go_quiet (first | (go_at_call 25; (with_reducible refine (turndownref06_Possible.calls k4 _ _ x13_4 false _ ?side1 ?side2 A44.out).mono ?_); (case side1 => repeat (first | exact (Kd.R_reads' HO_13.out).2.2 | (with_reducible refine Kd.C_alloc ?_ _) | (with_reducible refine Kd.C_drewN ?_ _) | (with_reducible refine Kd.C_drew ?_))); (case side2 => exact (Kd.R_reads' HO_13.out).2.1); rintro e w' ⟨rfl, ⟨nd, rfl⟩⟩; (try first | exact ⟨rfl, _, World.drewN_drewN _ _ _⟩ | exact ⟨rfl, _, Eq.trans (World.drewN_drewN _ _ _) (congrArg (World.drewN _) (Nat.add_assoc _ _ _))⟩)) | (go_at_call 22; (with_reducible refine (turndownlaw06_awake.calls k4  t365 _ A52.out).mono ?_); rintro e w54 ⟨rfl, hb⟩; have n0_ := Aside0.mk (Kd.R_below (by (with_reducible repeat (first | apply Kd.R_alloc | apply Kd.R_drewN | apply Kd.R_drew)); exact HO_7.out) hb); have n1_ := Aside0.mk (Kd.R_below (by (with_reducible repeat (first | apply Kd.R_alloc | apply Kd.R_drewN | apply Kd.R_drew)); exact HO_13.out) hb); have n2_ := Aside0.mk (below_step (by repeat (first | (with_reducible first | exact HB.out | apply below_alloc | apply pw_below_drewN | apply below_drew1) | exact HB.out)) hb); clear HO_7; clear HO_13; clear HB; have HO_7 := n0_; have HO_13 := n1_; have HB := n2_; clear n0_ n1_ n2_; (try clear hb); (try clear hb2); (try clear hk); (try clear hi))); try go_wp2_with (first | (go_at_call 25; (with_reducible refine (turndownref06_Possible.calls k4 _ _ x13_4 false _ ?side1 ?side2 A44.out).mono ?_); (case side1 => repeat (first | exact (Kd.R_reads' HO_13.out).2.2 | (with_reducible refine Kd.C_alloc ?_ _) | (with_reducible refine Kd.C_drewN ?_ _) | (with_reducible refine Kd.C_drew ?_))); (case side2 => exact (Kd.R_reads' HO_13.out).2.1); rintro e w' ⟨rfl, ⟨nd, rfl⟩⟩; (try first | exact ⟨rfl, _, World.drewN_drewN _ _ _⟩ | exact ⟨rfl, _, Eq.trans (World.drewN_drewN _ _ _) (congrArg (World.drewN _) (Nat.add_assoc _ _ _))⟩)) | (go_at_call 22; (with_reducible refine (turndownlaw06_awake.calls k4  t365 _ A52.out).mono ?_); rintro e w54 ⟨rfl, hb⟩; have n0_ := Aside0.mk (Kd.R_below (by (with_reducible repeat (first | apply Kd.R_alloc | apply Kd.R_drewN | apply Kd.R_drew)); exact HO_7.out) hb); have n1_ := Aside0.mk (Kd.R_below (by (with_reducible repeat (first | apply Kd.R_alloc | apply Kd.R_drewN | apply Kd.R_drew)); exact HO_13.out) hb); have n2_ := Aside0.mk (below_step (by repeat (first | (with_reducible first | exact HB.out | apply below_alloc | apply pw_below_drewN | apply below_drew1) | exact HB.out)) hb); clear HO_7; clear HO_13; clear HB; have HO_7 := n0_; have HO_13 := n1_; have HB := n2_; clear n0_ n1_ n2_; (try clear hb); (try clear hb2); (try clear hk); (try clear hi))))
              go_ret
              exact ⟨by first | rfl | (simp [errW_none, errW_some] <;> rfl) | (simp [*, errW_none, errW_some] <;> rfl), by repeat (first | (with_reducible first | exact HB.out | apply below_alloc | apply pw_below_drewN | apply below_drew1) | exact HB.out)⟩
def turndownlaw06_CodeFull.Pure : Prop := ∀ (l0 : List Int) (a1 : Int) (l2 : List Int), l0.length ≤ maxLen → l0.length * 8 ≤ 140737488351232 → (∀ x ∈ l0, (Lit.int .i64 x).wf = true) → (Lit.int .i64 a1).wf = true → l2.length ≤ maxLen → l2.length * 8 ≤ 140737488351232 → (∀ x ∈ l2, (Lit.int .i64 x).wf = true) → ∃ k, turndownlaw06_CodeFull.f k l0 a1 l2 = some true
theorem turndownlaw06_CodeFull.walk (P : turndownlaw06_CodeFull.Pure) (a0 : Option Addr) (len0 cap0 : Nat) (z0 : List Int) (a1 : Int) (a2 : Option Addr) (len2 cap2 : Nat) (z2 : List Int) (w : World) (w0 : (a0 = none ∧ len0 = 0 ∧ cap0 = 0 ∧ z0 = []) ∨ ∃ x, a0 = some x ∧ len0 ≤ cap0 ∧ cap0 ≤ maxLen ∧ z0.length = cap0 ∧ (∀ i, i < z0.length → w.cell? (x.add i) = some (.int .i64 (z0.getD i 0))) ∧ ∀ n ∈ z0, (Lit.int .i64 n).wf = true) (y0 : len0 * 8 ≤ 140737488351232) (w1 : (Lit.int .i64 a1).wf = true) (w2 : (a2 = none ∧ len2 = 0 ∧ cap2 = 0 ∧ z2 = []) ∨ ∃ x, a2 = some x ∧ len2 ≤ cap2 ∧ cap2 ≤ maxLen ∧ z2.length = cap2 ∧ (∀ i, i < z2.length → w.cell? (x.add i) = some (.int .i64 (z2.getD i 0))) ∧ ∀ n ∈ z2, (Lit.int .i64 n).wf = true) (y2 : len2 * 8 ≤ 140737488351232) :
  Calls Try.prog 8 #[.slice a0 len0 cap0, .int .i64 a1, .slice a2 len2 cap2] w fun e w' => e = .returned (.bool true) ∧ Below w.heap.size w w' := by
 obtain ⟨l0, rfl, hr0, hm0, hw0, hc0⟩ := ReadsInt.ofRowC w0
 obtain ⟨l2, rfl, hr2, hm2, hw2, hc2⟩ := ReadsInt.ofRowC w2
 obtain ⟨k, h⟩ := P l0 a1 l2 hm0 y0 hw0 w1 hm2 y2 hw2
 refine (turndownlaw06_CodeFull.calls k _ _ l0 a1 _ _ l2 true w (Kd.C_of_reads (d := (0 : Int)) (h1 := fun _ => rfl) hr0) hc0 (Kd.C_of_reads (d := (0 : Int)) (h1 := fun _ => rfl) hr2) hc2 h).mono ?_
 rintro e w' ⟨rfl, hd⟩
 exact ⟨rfl, hd⟩
end Go.Proofs.Ytcpojohpmcnnhaa.PA

set_option linter.unusedVariables false
set_option linter.unusedSimpArgs false
namespace Go.Proofs.Ytcpojohpmcnnhaa.K
theorem kraft_scale {m : Nat} {ps : WL} (h : ∀ p, p ∈ ps → p.2 ≤ m) : ∀ k, kraft (m + k) ps = 2 ^ k * kraft m ps
  | 0 => by simp
  | k + 1 => by
    rw [← Nat.add_assoc, kraft_succ (fun p hp => Nat.le_trans (h p hp) (Nat.le_add_right _ _)), kraft_scale h k, Nat.pow_succ, Nat.mul_comm (2 ^ k) 2, Nat.mul_assoc]
theorem opt_full {ws : List Int} {L : Nat} {ps : WL} (hp : ∀ x, x ∈ ws → 1 ≤ x) (h2 : 2 ≤ ws.length) (hf : IsFor ws ps) (hfit : FitsP L ps) (hopt : Opt ws L (costP ps)) : kraft L ps = 2 ^ L := by
  have hl := for_length hf
  obtain ⟨p, rest, hperm, hfp, hpl⟩ := split_max (ps := ps) (by intro e; rw [e] at hl; simp at hl; omega) hfit
  have hlen : rest.length + 1 = ps.length := by rw [← hperm.length_eq]; simp
  have h0 : 0 < p.2 := by
    rcases Nat.eq_zero_or_pos p.2 with h | h
    · exfalso
      have hk := hfp.kr
      have hle := hfp.le
      rw [h] at hk hle
      have : ∀ qs : WL, (∀ q, q ∈ qs → q.2 ≤ 0) → kraft 0 qs = qs.length := by
        intro qs
        induction qs with
        | nil => intro _; rfl
        | cons q qs ih =>
          intro hq
          rw [kraft_cons, ih (fun x hx => hq x (by simp [hx]))]
          simp
          omega
      rw [this _ hle, List.length_cons, Nat.pow_zero] at hk
      omega
    · exact h
  have hk : kraft p.2 (p :: rest) = 2 ^ p.2 := by
    rcases Nat.lt_or_ge (kraft p.2 (p :: rest)) (2 ^ p.2) with h | h
    · exfalso
      have h3 := shorten hfp h0 h
      have h4 : IsFor ws ((p.1, p.2 - 1) :: rest) := for_head (for_perm hperm.symm hf) _
      have h5 := hopt.least _ h4 (fits_up h3 hpl)
      rw [← costP_perm hperm, costP_cons, costP_cons] at h5
      have h6 : 1 ≤ p.1 := hp _ (hf.subset (List.mem_map.2 ⟨p, hperm.subset (by simp), rfl⟩))
      have h7 : p.1 * ((p.2 : Nat) : Int) = p.1 * (((p.2 - 1 : Nat)) : Int) + p.1 := by
        conv => lhs; rw [show p.2 = (p.2 - 1) + 1 by omega]
        push_cast
        rw [Int.mul_add, Int.mul_one]
      simp only at h5
      omega
    · exact Nat.le_antisymm hfp.kr h
  rw [← kraft_perm hperm]
  have := kraft_scale (m := p.2) (ps := p :: rest) hfp.le (L - p.2)
  rw [show p.2 + (L - p.2) = L by omega, hk, ← Nat.pow_add, show L - p.2 + p.2 = L by omega] at this
  exact this
theorem two_of {ws : List Int} {l : Nat → Nat} {i k : Nat} (hi : i < ws.length) (hk : k < ws.length) (hne : i ≠ k) : ∃ rest, (pairsOf ws l).Perm ((ws.getD i 0, l i) :: (ws.getD k 0, l k) :: rest) := by
  have h1 : (List.range ws.length).Perm (i :: (List.range ws.length).erase i) := List.perm_cons_erase (List.mem_range.2 hi)
  have h2 : k ∈ (List.range ws.length).erase i := (List.mem_erase_of_ne (Ne.symm hne)).2 (List.mem_range.2 hk)
  have h3 := List.perm_cons_erase h2
  have h4 := (h1.trans (h3.cons i)).map (fun s => (ws.getD s 0, l s))
  exact ⟨_, h4⟩
theorem opt_order {ws : List Int} {L : Nat} {l : Nat → Nat} (hfit : Fits ws.length L l) (hopt : Opt ws L (costN ws l)) {i k : Nat} (hi : i < ws.length) (hk : k < ws.length) (hw : ws.getD k 0 < ws.getD i 0) : l i ≤ l k := by
  rcases Nat.lt_or_ge (l k) (l i) with h | h
  · exfalso
    have hne : i ≠ k := by rintro rfl; omega
    obtain ⟨rest, hperm⟩ := two_of (ws := ws) (l := l) hi hk hne
    have hf : IsFor ws (pairsOf ws l) := by unfold IsFor; rw [pairs_for]
    have hf2 : IsFor ws ((ws.getD i 0, l k) :: (ws.getD k 0, l i) :: rest) := by
      have := for_perm hperm hf
      exact this
    have hfp := fits_perm hperm (pairs_fits.2 hfit)
    have hfp2 : FitsP L ((ws.getD i 0, l k) :: (ws.getD k 0, l i) :: rest) := by
      refine ⟨fun p hp => ?_, ?_⟩
      · rcases List.mem_cons.1 hp with rfl | hp
        · exact hfp.le (ws.getD k 0, l k) (by simp)
        · rcases List.mem_cons.1 hp with rfl | hp
          · exact hfp.le (ws.getD i 0, l i) (by simp)
          · exact hfp.le p (by simp [hp])
      · have := hfp.kr
        rw [kraft_cons, kraft_cons] at this ⊢
        simp only at this ⊢
        omega
    have h1 := hopt.least _ hf2 hfp2
    rw [← pairs_cost, costP_perm hperm, costP_cons, costP_cons, costP_cons, costP_cons] at h1
    simp only at h1
    obtain ⟨d, hd⟩ : ∃ d, l i = l k + d := ⟨l i - l k, by omega⟩
    have hd0 : 0 < d := by omega
    rw [hd] at h1
    push_cast at h1
    rw [Int.mul_add, Int.mul_add] at h1
    have h2 : ws.getD k 0 * (d : Int) < ws.getD i 0 * (d : Int) := Int.mul_lt_mul_of_pos_right hw (by omega)
    omega
  · exact h
theorem bring_min {D : Nat} {w0 x : Int} {r : WL} (hD : ∀ u, u ∈ r → u.2 ≤ D) (hw : ∀ u, u ∈ (x, D) :: r → w0 ≤ u.1) (hm : w0 ∈ ((x, D) :: r).map (·.1)) :
    ∃ r' : WL, (((w0, D) :: r').map (·.1)).Perm (((x, D) :: r).map (·.1)) ∧ (∀ L, kraft L r' = kraft L r) ∧ (∀ u, u ∈ r' → u.2 ≤ D) ∧ costP ((w0, D) :: r') ≤ costP ((x, D) :: r) := by
  by_cases h : x = w0
  · subst h; exact ⟨r, .refl _, fun _ => rfl, hD, Int.le_refl _⟩
  · obtain ⟨u, hu, hue⟩ := List.mem_map.1 hm
    have hu' : u ∈ r := by
      rcases List.mem_cons.1 hu with rfl | hu
      · exact absurd hue h
      · exact hu
    obtain ⟨A, B, rfl⟩ := List.append_of_mem hu'
    obtain ⟨y, d⟩ := u
    obtain rfl : y = w0 := hue
    have hd := hD (y, d) (by simp)
    have hx := hw (x, D) (by simp)
    simp only at hd hx
    have pk : ∀ (z : Int), (A ++ (z, d) :: B).Perm ((z, d) :: (A ++ B)) := fun z => List.perm_middle
    refine ⟨A ++ (x, d) :: B, ?_, fun L => ?_, fun u hu => ?_, ?_⟩
    · have e1 : (((y, D) :: (A ++ (x, d) :: B)).map (·.1)).Perm (((y, D) :: (x, d) :: (A ++ B)).map (·.1)) := ((pk x).cons _).map _
      have e2 : (((x, D) :: (A ++ (y, d) :: B)).map (·.1)).Perm (((x, D) :: (y, d) :: (A ++ B)).map (·.1)) := ((pk y).cons _).map _
      refine e1.trans (List.Perm.trans ?_ e2.symm)
      exact List.Perm.swap _ _ _
    · rw [kraft_perm (pk x), kraft_perm (pk y), kraft_cons, kraft_cons]
    · rcases List.mem_append.1 hu with hu | hu
      · exact hD u (by simp [hu])
      · rcases List.mem_cons.1 hu with rfl | hu
        · exact hd
        · exact hD u (by simp [hu])
    · rw [costP_cons, costP_cons, costP_perm (pk x), costP_perm (pk y), costP_cons, costP_cons]
      simp only
      obtain ⟨k, hk⟩ : ∃ k, D = d + k := ⟨D - d, by omega⟩
      rw [hk]
      push_cast
      rw [Int.mul_add, Int.mul_add]
      have : y * (k : Int) ≤ x * (k : Int) := Int.mul_le_mul_of_nonneg_right hx (by omega)
      omega
theorem kraft_even {D : Nat} {r : WL} (h : ∀ u, u ∈ r → u.2 < D) : kraft D r % 2 = 0 := by
  induction r with
  | nil => rfl
  | cons u r ih =>
    have h1 := ih (fun v hv => h v (by simp [hv]))
    have h2 := h u (by simp)
    rw [kraft_cons, show D - u.2 = (D - u.2 - 1) + 1 by omega, Nat.pow_succ]
    omega
theorem two_max (ws : List Int) (hw : NN ws) (h2 : 2 ≤ ws.length) : ∀ (t L : Nat) (ps : WL), total ps = t → IsFor ws ps → FitsP L ps → ∃ D p q r, D ≤ L ∧ 1 ≤ D ∧ IsFor ws ((p, D) :: (q, D) :: r) ∧ FitsP D ((p, D) :: (q, D) :: r) ∧ costP ((p, D) :: (q, D) :: r) ≤ costP ps := by
  intro t
  induction t using Nat.strongRecOn with
  | _ t ih =>
    intro L ps ht hfor hfit
    have hl := for_length hfor
    obtain ⟨p, rest, hperm, hfp, hpl⟩ := split_max (ps := ps) (by intro e; rw [e] at hl; simp at hl; omega) hfit
    have hlen : rest.length + 1 = ps.length := by rw [← hperm.length_eq]; simp
    have hfor' := for_perm hperm.symm hfor
    by_cases hq : ∃ q, q ∈ rest ∧ q.2 = p.2
    · obtain ⟨q, hq, hqe⟩ := hq
      obtain ⟨A, B, rfl⟩ := List.append_of_mem hq
      obtain ⟨p1, D⟩ := p
      obtain ⟨q1, D'⟩ := q
      simp only at hqe hfp hpl
      subst hqe
      have hp2 : ((p1, D') :: (A ++ (q1, D') :: B)).Perm ((p1, D') :: (q1, D') :: (A ++ B)) := List.perm_middle.cons _
      refine ⟨D', p1, q1, A ++ B, hpl, ?_, for_perm hp2 hfor', fits_perm hp2 hfp, ?_⟩
      · rcases Nat.eq_zero_or_pos D' with h | h
        · exfalso
          have := hfp.kr
          rw [kraft_perm hp2, kraft_cons, kraft_cons, h] at this
          simp at this
          omega
        · exact h
      · rw [← costP_perm hp2, costP_perm hperm]; exact Int.le_refl _
    · have hlt : ∀ u, u ∈ rest → u.2 < p.2 := fun u hu => by
        have h1 := hfp.le u (by simp [hu])
        rcases Nat.lt_or_ge u.2 p.2 with h3 | h3
        · exact h3
        · exact absurd ⟨u, hu, by omega⟩ hq
      have h0 : 0 < p.2 := by
        cases rest with
        | nil => simp at hlen; omega
        | cons u rest => have := hlt u (by simp); omega
      have hlt2 : kraft p.2 (p :: rest) < 2 ^ p.2 := by
        have h1 := kraft_even hlt
        have h3 := hfp.kr
        rw [kraft_cons, Nat.sub_self] at h3 ⊢
        have h4 : 2 ^ p.2 % 2 = 0 := by rw [show p.2 = (p.2 - 1) + 1 by omega, Nat.pow_succ]; omega
        omega
      have h3 := shorten hfp h0 hlt2
      have h4 : IsFor ws ((p.1, p.2 - 1) :: rest) := for_head hfor' _
      have htot : total ((p.1, p.2 - 1) :: rest) < t := by
        rw [← ht, ← total_perm hperm]
        simp [total]
        omega
      obtain ⟨D, a, b, r, c1, c2, c3, c4, c5⟩ := ih _ htot p.2 _ rfl h4 h3
      refine ⟨D, a, b, r, by omega, c2, c3, c4, Int.le_trans c5 ?_⟩
      rw [← costP_perm hperm]
      exact short_cost (nn_of hw hfor (hperm.subset (by simp))) h0
theorem opt_merge {wa wb : Int} {rest : List Int} {M : Nat} {c m : Int} (ha : 0 ≤ wa) (hab : wa ≤ wb) (hb : ∀ x, x ∈ rest → wb ≤ x) (hM : rest.length + 1 ≤ M) (h : Opt (wa :: wb :: rest) M c) (k : Opt ((wa + wb) :: rest) M m) : c = m + (wa + wb) := by
  have hnn : NN (wa :: wb :: rest) := fun x hx => by
    rcases List.mem_cons.1 hx with rfl | hx
    · exact ha
    · rcases List.mem_cons.1 hx with rfl | hx
      · omega
      · have := hb x hx; omega
  have hnn2 : NN ((wa + wb) :: rest) := fun x hx => by
    rcases List.mem_cons.1 hx with rfl | hx
    · omega
    · have := hb x hx; omega
  have le1 : c ≤ m + (wa + wb) := by
    obtain ⟨ps, p1, p2, rfl⟩ := k.some
    have hpl := for_length p1
    obtain ⟨qs, q1, q2, q3⟩ := short_all _ hnn2 _ M ps rfl p1 p2 (by intro e; rw [e] at hpl; simp at hpl)
    have hql := for_length q1
    obtain ⟨q', r1, r2⟩ := reorder _ q1
    cases q' with
    | nil => simp at r2
    | cons z r =>
      obtain ⟨z1, x⟩ := z
      simp only [List.map_cons, List.cons.injEq] at r2
      obtain ⟨rfl, rfl⟩ := r2
      have f2 := fits_perm r1.symm q2
      simp only [List.length_cons] at hpl
      rw [hpl] at f2
      simp only [List.length_map] at f2 hM
      have f3 : FitsP (r.length + 1) ((wa + wb, x) :: r) := fits_up f2 (by omega)
      have hx : x ≤ r.length := f2.le (wa + wb, x) (by simp)
      have f4 : FitsP (r.length + 1) ((wa, x + 1) :: (wb, x + 1) :: r) := by
        refine ⟨fun p hp => ?_, ?_⟩
        · rcases List.mem_cons.1 hp with rfl | hp
          · show x + 1 ≤ _; omega
          · rcases List.mem_cons.1 hp with rfl | hp
            · show x + 1 ≤ _; omega
            · exact f3.le p (by simp [hp])
        · have := f3.kr
          rw [kraft_cons] at this
          rw [kraft_cons, kraft_cons]
          simp only at this ⊢
          rw [show r.length + 1 - x = (r.length + 1 - (x + 1)) + 1 by omega, Nat.pow_succ] at this
          omega
      have h5 := h.least _ (by unfold IsFor; exact List.Perm.refl _) (fits_up f4 hM)
      rw [costP_cons, costP_cons] at h5
      rw [← costP_perm r1, costP_cons] at q3
      simp only at h5 q3
      push_cast at h5
      rw [Int.mul_add, Int.mul_add, Int.mul_one, Int.mul_one] at h5
      rw [Int.add_mul] at q3
      omega
  have le2 : m + (wa + wb) ≤ c := by
    obtain ⟨ps, p1, p2, rfl⟩ := h.some
    obtain ⟨D, p, q, r, d1, d2, d3, d4, d5⟩ := two_max _ hnn (by simp) _ M ps rfl p1 p2
    have hmin : ∀ u, u ∈ (p, D) :: (q, D) :: r → wa ≤ u.1 := fun u hu => by
      have : u.1 ∈ wa :: wb :: rest := d3.subset (List.mem_map.2 ⟨u, hu, rfl⟩)
      rcases List.mem_cons.1 this with h1 | h1
      · omega
      · rcases List.mem_cons.1 h1 with h1 | h1
        · omega
        · have := hb _ h1; omega
    obtain ⟨r1, a1, a2, a3, a4⟩ := bring_min (D := D) (w0 := wa) (x := p) (r := (q, D) :: r) (fun u hu => d4.le u (by simp [List.mem_cons.1 hu])) hmin (d3.symm.subset (by simp))
    have hr1 : (r1.map (·.1)).Perm (wb :: rest) := (List.perm_cons wa).1 (a1.trans d3)
    have hk1 := a2 D
    rw [kraft_cons] at hk1
    have hl1 : r1 ≠ [] := by intro e; rw [e] at hr1; have := hr1.length_eq; simp at this
    have hdeep : ∃ u, u ∈ r1 ∧ u.2 = D := by
      by_cases hex : ∃ u, u ∈ r1 ∧ u.2 = D
      · exact hex
      · exfalso
        have hlt : ∀ u, u ∈ r1 → u.2 < D := fun u hu => by
          have h1 := a3 u hu
          rcases Nat.lt_or_ge u.2 D with h3 | h3
          · exact h3
          · exact absurd ⟨u, hu, by omega⟩ hex
        have h4 := kraft_even hlt
        rw [hk1] at h4
        have h5 := a2 (D - 1)
        rw [kraft_cons] at h5
        have h6 : kraft D r1 = 2 * kraft (D - 1) r1 := by
          have := kraft_succ (L := D - 1) (ps := r1) (fun u hu => by have := hlt u hu; omega)
          rwa [show D - 1 + 1 = D by omega] at this
        have h7 : ∀ (l : WL), (∀ u, u ∈ l → u.2 ≤ D) → kraft D l + (l.filter (fun u => u.2 == D)).length = 2 * kraft (D - 1) l := by
          intro l
          induction l with
          | nil => intro _; rfl
          | cons u l ihl =>
            intro hu
            have h8 := ihl (fun v hv => hu v (by simp [hv]))
            have h9 := hu u (by simp)
            rw [kraft_cons, kraft_cons]
            by_cases he : u.2 = D
            · have : (u.2 == D) = true := by simp [he]
              simp only [List.filter_cons, this, if_true, List.length_cons]
              rw [he, Nat.sub_self, show D - 1 - D = 0 by omega]
              omega
            · have : (u.2 == D) = false := by simp [he]
              simp only [List.filter_cons, this, Bool.false_eq_true, if_false]
              rw [show D - u.2 = (D - 1 - u.2) + 1 by omega, Nat.pow_succ]
              omega
        have h10 := h7 ((q, D) :: r) (fun u hu => d4.le u (by simp [List.mem_cons.1 hu]))
        rw [kraft_cons, kraft_cons] at h10
        have : ((D == D) : Bool) = true := by simp
        simp only [List.filter_cons, this, if_true, List.length_cons] at h10
        simp only at hk1 h5
        omega
    obtain ⟨u, hu, hud⟩ := hdeep
    obtain ⟨A, B, rfl⟩ := List.append_of_mem hu
    obtain ⟨y, d⟩ := u
    simp only at hud
    subst hud
    have pm : (A ++ (y, d) :: B).Perm ((y, d) :: (A ++ B)) := List.perm_middle
    have hr2 : (((y, d) :: (A ++ B)).map (·.1)).Perm (wb :: rest) := (pm.symm.map _).trans hr1
    have hmin2 : ∀ v, v ∈ (y, d) :: (A ++ B) → wb ≤ v.1 := fun v hv => by
      have : v.1 ∈ wb :: rest := hr2.subset (List.mem_map.2 ⟨v, hv, rfl⟩)
      rcases List.mem_cons.1 this with h1 | h1
      · omega
      · exact hb _ h1
    obtain ⟨r2, b1, b2, b3, b4⟩ := bring_min (D := d) (w0 := wb) (x := y) (r := A ++ B) (fun v hv => a3 v (pm.symm.subset (by simp [hv]))) hmin2 (hr2.symm.subset (by simp))
    have hr3 : (r2.map (·.1)).Perm rest := (List.perm_cons wb).1 (b1.trans hr2)
    have hk3 := d4.kr
    rw [kraft_cons, kraft_cons] at hk3
    simp only at hk3 hk1
    rw [kraft_perm pm, kraft_cons, ← b2 d] at hk1
    simp only at hk1
    rw [Nat.sub_self] at hk1 hk3
    have f5 : FitsP d ((wa + wb, d - 1) :: r2) := by
      refine ⟨fun p hp => ?_, ?_⟩
      · rcases List.mem_cons.1 hp with rfl | hp
        · show d - 1 ≤ d; omega
        · exact b3 p hp
      · rw [kraft_cons]
        simp only
        rw [show d - (d - 1) = 1 by omega]
        omega
    have h6 := k.least ((wa + wb, d - 1) :: r2) (by unfold IsFor; exact hr3.cons _) (fits_up f5 d1)
    rw [costP_cons] at h6 b4 a4
    rw [costP_perm pm] at a4
    rw [costP_cons] at d5
    rw [costP_cons] at b4
    simp only at h6 a4 b4 d5
    have e1 : (wa + wb) * ((d - 1 : Nat) : Int) = (wa + wb) * (d : Int) - (wa + wb) := by
      rw [show ((d - 1 : Nat) : Int) = (d : Int) - 1 by omega, Int.mul_sub, Int.mul_one]
    rw [e1, Int.add_mul] at h6
    have e2 : costP ((p, d) :: (q, d) :: r) = p * (d : Int) + costP ((q, d) :: r) := costP_cons _ _
    have e3 : costP ((y, d) :: (A ++ B)) = y * (d : Int) + costP (A ++ B) := costP_cons _ _
    rw [e3] at a4
    rw [e2] at a4
    omega
  omega
end Go.Proofs.Ytcpojohpmcnnhaa.K

set_option linter.unusedVariables false
set_option linter.unusedSimpArgs false
namespace Go.Proofs.Ytcpojohpmcnnhaa.L
open Go.RowKit Go.Proofs.YtcpojohpmcnnhaaW.PrintWords Go.Proofs.YtcpojohpmcnnhaaW.PrintLast Go.Proofs.YtcpojohpmcnnhaaW.PrintMore
open Go.Proofs.Ytcpojohpmcnnhaa.PA Go.Proofs.Ytcpojohpmcnnhaa.A Go.Proofs.Ytcpojohpmcnnhaa.K
def modI (x n : Int) : Int := Int.tmod (IntKind.u64.wrap x) n
theorem u64_nn (x : Int) : 0 ≤ IntKind.u64.wrap x := by
  have e : IntKind.u64.wrap x = x % 18446744073709551616 := by simp [IntKind.wrap, IntKind.bits, IntKind.signed]
  rw [e]; omega
theorem u64_small {x : Int} (h : 0 ≤ x) (h2 : x ≤ 1000000000000) : IntKind.u64.wrap x = x := by
  have e : IntKind.u64.wrap x = x % 18446744073709551616 := by simp [IntKind.wrap, IntKind.bits, IntKind.signed]
  rw [e]; omega
theorem modI_bd (x : Int) {n : Int} (h : 1 ≤ n) : 0 ≤ modI x n ∧ modI x n < n := by
  unfold modI
  have h0 := u64_nn x
  rw [Int.tmod_eq_emod_of_nonneg h0]
  exact ⟨Int.emod_nonneg _ (by omega), Int.emod_lt_of_pos _ (by omega)⟩
theorem mod_all (x : Int) {n : Int} (h : 1 ≤ n) (h2 : n ≤ 1000000000000) : turndownlaw06_mod.f x n = some (modI x n) := by
  unfold turndownlaw06_mod.f
  rw [u64_small (by omega) h2, if_neg (by omega)]
  have := modI_bd x h
  unfold modI at this ⊢
  congr 1
  unfold wrap64
  omega
theorem tame_ev (l : List Int) {most : Nat} {low : Int} (hl : l.length ≤ 17592186044416) (hm : 1 ≤ most) (hm2 : most ≤ 1000) (h0 : 0 ≤ low) (h1 : low ≤ 1) : ∃ w, Ev (fun k => turndownlaw06_tame.f k l (most : Int) low) w ∧ 1 ≤ w.length ∧ w.length ≤ most ∧ ∀ x, x ∈ w → low ≤ x ∧ x ≤ 1073741824 := by
  have fin : ∀ (out : List Int) (q : Nat), out.length ≤ most → (∀ x, x ∈ out → low ≤ x ∧ x ≤ 1073741824) → ∃ w, Ev (fun k => turndownlaw06_tame.j1 k l (most : Int) low out (q : Int) false) w ∧ 1 ≤ w.length ∧ w.length ≤ most ∧ ∀ x, x ∈ w → low ≤ x ∧ x ≤ 1073741824 := by
    intro out q ho hx
    by_cases h : (out.length : Int) = 0
    · refine ⟨out ++ [1], Ev.step (fun k => ?_) (Ev.now _), by simp, by simp; omega, fun x hx' => ?_⟩
      · rw [turndownlaw06_tame.j1, if_neg (by simp), if_pos h, if_pos (by omega)]
      · rcases List.mem_append.1 hx' with hx' | hx'
        · exact hx x hx'
        · rw [List.mem_singleton.1 hx']; omega
    · refine ⟨out, Ev.step (fun k => ?_) (Ev.now _), by omega, ho, hx⟩
      rw [turndownlaw06_tame.j1, if_neg (by simp), if_neg h]
  have key : ∀ e q (out : List Int), q + e = min l.length most → out.length = q → (∀ x, x ∈ out → low ≤ x ∧ x ≤ 1073741824) → ∃ w, Ev (fun k => turndownlaw06_tame.l0 k l (most : Int) low out (q : Int)) w ∧ 1 ≤ w.length ∧ w.length ≤ most ∧ ∀ x, x ∈ w → low ≤ x ∧ x ≤ 1073741824 := by
    intro e
    induction e with
    | zero =>
      intro q out hq ho hx
      obtain ⟨w, hw, h3⟩ := fin out q (by omega) hx
      refine ⟨w, Ev.step (fun k => ?_) hw, h3⟩
      rw [turndownlaw06_tame.l0]
      by_cases h : (q : Int) < (l.length : Int)
      · rw [if_pos h, decide_eq_false (show ¬ (q : Int) < (most : Int) by omega)]
      · rw [if_neg h]
    | succ e ih =>
      intro q out hq ho hx
      have hql : q < l.length := by omega
      have hqm : q < most := by omega
      obtain ⟨y, hy, hstep⟩ : ∃ y, (low ≤ y ∧ y ≤ 1073741824) ∧ ∀ k, turndownlaw06_tame.j1 (k + 1) l (most : Int) low out (q : Int) true = turndownlaw06_tame.l0 k l (most : Int) low (out ++ [y]) ((q + 1 : Nat) : Int) := by
        have hm3 := modI_bd (l.getD q 0) (n := 1000) (by omega)
        have hm4 : wrap64 (low + modI (l.getD q 0) 1000) = low + modI (l.getD q 0) 1000 := by unfold wrap64; omega
        by_cases c1 : l.getD q 0 < low
        · refine ⟨low + modI (l.getD q 0) 1000, by omega, fun k => ?_⟩
          rw [turndownlaw06_tame.j1, if_pos rfl, if_pos (by omega), if_pos (by omega), rd_nat, if_pos c1, mod_all _ (by omega) (by omega)]
          simp only [Option.bind_some]
          rw [if_pos (by omega), hm4, w1 (by omega)]
        · by_cases c2 : l.getD q 0 > 1073741824
          · refine ⟨low + modI (l.getD q 0) 1000, by omega, fun k => ?_⟩
            rw [turndownlaw06_tame.j1, if_pos rfl, if_pos (by omega), if_pos (by omega), rd_nat, if_neg c1, if_pos c2, mod_all _ (by omega) (by omega)]
            simp only [Option.bind_some]
            rw [if_pos (by omega), hm4, w1 (by omega)]
          · refine ⟨l.getD q 0, by omega, fun k => ?_⟩
            rw [turndownlaw06_tame.j1, if_pos rfl, if_pos (by omega), if_pos (by omega), rd_nat, if_neg c1, if_neg c2, if_pos (by omega), w1 (by omega)]
      obtain ⟨w, hw, h3⟩ := ih (q + 1) (out ++ [y]) (by omega) (by simp [ho]) (fun x hx' => by
        rcases List.mem_append.1 hx' with hx' | hx'
        · exact hx x hx'
        · rw [List.mem_singleton.1 hx']; exact hy)
      refine ⟨w, Ev.step (fun k => ?_) (Ev.step (g := fun k => turndownlaw06_tame.j1 k l (most : Int) low out (q : Int) true) hstep hw), h3⟩
      rw [turndownlaw06_tame.l0, if_pos (by omega), decide_eq_true (show (q : Int) < (most : Int) by omega)]
  exact key (min l.length most) 0 [] (by omega) rfl (fun x hx => by cases hx)
theorem getD_mem {l : List Int} {s : Nat} (hs : s < l.length) : l.getD s 0 ∈ l := by
  rw [List.getD_eq_getElem?_getD, List.getElem?_eq_getElem hs]
  exact List.getElem_mem hs
end Go.Proofs.Ytcpojohpmcnnhaa.L

set_option linter.unusedVariables false
set_option linter.unusedSimpArgs false
namespace Go.Proofs.Ytcpojohpmcnnhaa.Pure
open Go.RowKit Go.Proofs.Ytcpojohpmcnnhaa.PA Go.Proofs.YtcpojohpmcnnhaaW.PrintWords Go.Proofs.YtcpojohpmcnnhaaW.PrintLast Go.Proofs.Ytcpojohpmcnnhaa.L Go.Proofs.Ytcpojohpmcnnhaa.K
theorem full_l2 {w l2 : List Int} {L : Nat} {c : Int} (hL : L ≤ 32) (h1 : 1 ≤ w.length) (h64 : w.length ≤ 64) (hl2 : l2.length ≤ 17592186044416) (hw : ∀ x, x ∈ w → 0 ≤ x ∧ x ≤ 1073741824) (hopt : Opt w L c) :
    ∀ e q (o : List Int), q + e = w.length → o.length = q → okB 0 (L : Int) o = true → Ev (fun k => turndownlaw06_CodeFull.l2 k (L : Int) l2 w c o (q : Int)) true := by
  intro e
  induction e with
  | zero =>
    intro q o hq ho hok
    have hok32 : okB 0 32 o = true := okB_iff.2 (fun x hx => by have := okB_iff.1 hok x hx; omega)
    have hpos := refPossible_ev (l := o) (by omega) hok32
    refine Ev.step (fun k => ?_) (Ev.bind (f := fun k (t362 : Bool) => (if t362 = true then ((turndownref06_Cost.f k w o).bind fun t363 => (if t363 ≥ c then ((turndownlaw06_awake.f k).bind fun t364 => (some t364)) else (some false))) else ((turndownlaw06_awake.f k).bind fun t365 => (some t365)))) hpos ?_)
    · rw [turndownlaw06_CodeFull.l2, if_neg (by omega)]
    · by_cases hs : sumI o ≤ 4294967296
      · rw [decide_eq_true hs]
        simp only [if_true]
        refine Ev.bind (refCost_ev (by omega) (by omega)) ?_
        have hlen : o.length = w.length := by omega
        have hfit : Fits w.length L (natL o) := by
          have f := (fits32 hok32).2 hs
          rw [hlen] at f
          exact fits_to f (fun s hs' => by have := getD_ok hok (s := s) (by omega); unfold natL; omega)
        have hge := hopt.least (pairsOf w (natL o)) (by unfold IsFor; rw [pairs_for]) (pairs_fits.2 hfit)
        rw [pairs_cost] at hge
        have e2 : costW w o w.length 0 = costN w (natL o) := by
          rw [costW_eq h64 (fun s hs' => ⟨hw _ (getD_mem hs'), by have := getD_ok hok (s := s) (by omega); omega⟩)]
          unfold costN
          refine sumZ_congr (fun s hs' => ?_)
          have := getD_ok hok (s := s) (by omega)
          unfold natL
          rw [Int.toNat_of_nonneg this.1]
        rw [e2]
        refine Ev.congr (fun k => ?_) (Ev.bind (f := fun _ t => some t) awake_ev (Ev.now _))
        rw [if_pos hge]
      · rw [decide_eq_false hs]
        simp only [Bool.false_eq_true, if_false]
        exact Ev.bind (f := fun _ t => some t) awake_ev (Ev.now _)
  | succ e ih =>
    intro q o hq ho hok
    have step : ∀ y : Int, 0 ≤ y → y ≤ (L : Int) → Ev (fun k => turndownlaw06_CodeFull.l2 k (L : Int) l2 w c (o ++ [y]) ((q + 1 : Nat) : Int)) true := fun y h2 h3 =>
      ih (q + 1) (o ++ [y]) (by omega) (by simp [ho]) (okB_iff.2 (fun x hx => by
        rcases List.mem_append.1 hx with hx | hx
        · exact okB_iff.1 hok x hx
        · rw [List.mem_singleton.1 hx]; omega))
    by_cases h : (q : Int) < (l2.length : Int)
    · have hm := modI_bd (l2.getD q 0) (n := (L : Int) + 1) (by omega)
      have hwr : wrap64 ((L : Int) + 1) = (L : Int) + 1 := by unfold wrap64; omega
      refine Ev.step (fun k => ?_) (step (modI (l2.getD q 0) ((L : Int) + 1)) hm.1 (by omega))
      rw [turndownlaw06_CodeFull.l2, if_pos (by omega), if_pos h, if_pos (by omega), hwr, rd_nat, mod_all _ (by omega) (by omega)]
      simp only [Option.bind_some]
      rw [if_pos (by omega), w1 (by omega)]
    · refine Ev.step (fun k => ?_) (step (L : Int) (by omega) (by omega))
      rw [turndownlaw06_CodeFull.l2, if_pos (by omega), if_neg h, if_pos (by omega), w1 (by omega)]
theorem full_l0 {w l l2 : List Int} {L : Nat} {c : Int} (h64 : w.length ≤ 64) (hl : l.length = w.length) (hord : ∀ i k, i < w.length → k < w.length → w.getD k 0 < w.getD i 0 → l.getD i 0 ≤ l.getD k 0)
    (hfin : Ev (fun k => turndownlaw06_CodeFull.l2 k (L : Int) l2 w c [] 0) true) : ∀ e q, q + e = l.length → Ev (fun k => turndownlaw06_CodeFull.l0 k (L : Int) l2 w l c (q : Int)) true := by
  intro e
  induction e with
  | zero =>
    intro q hq
    refine Ev.step (fun k => ?_) hfin
    rw [turndownlaw06_CodeFull.l0, if_neg (by omega)]
  | succ e ih =>
    intro q hq
    have inner : ∀ d p, p + d = l.length → Ev (fun k => turndownlaw06_CodeFull.l1 k (L : Int) l2 w l c (q : Int) (p : Int)) true := by
      intro d
      induction d with
      | zero =>
        intro p hp
        refine Ev.step (fun k => ?_) (ih (q + 1) (by omega))
        rw [turndownlaw06_CodeFull.l1, if_neg (by omega), w1 (by omega)]
      | succ d ihd =>
        intro p hp
        refine Ev.step (fun k => ?_) (ihd (p + 1) (by omega))
        rw [turndownlaw06_CodeFull.l1, if_pos (by omega), if_pos (by omega), if_pos (by omega), if_pos (by omega), if_pos (by omega), rd_nat, rd_nat]
        by_cases hc : w.getD q 0 > w.getD p 0
        · have := hord q p (by omega) (by omega) hc
          rw [if_pos hc, if_pos (by omega), rd_nat, rd_nat, if_neg (by omega), w1 (by omega)]
        · rw [if_neg hc, w1 (by omega)]
    refine Ev.step (fun k => ?_) (inner l.length 0 (by omega))
    rw [turndownlaw06_CodeFull.l0, if_pos (by omega)]
    rfl
theorem CodeFull : turndownlaw06_CodeFull.Pure := by
  intro l0 a1 l2 h1 h2 h3 h4 h5 h6 h7
  obtain ⟨w, hw, hw1, hw30, hwx⟩ := tame_ev l0 (most := 30) (low := 1) (by omega) (by omega) (by omega) (by omega) (by omega)
  have hm := modI_bd a1 (n := 28) (by omega)
  obtain ⟨L, hL⟩ : ∃ L : Nat, 5 + modI a1 28 = (L : Int) := ⟨(5 + modI a1 28).toNat, by omega⟩
  have hwr : wrap64 (5 + modI a1 28) = (L : Int) := by rw [hL]; unfold wrap64; omega
  have hp : (2 : Nat) ^ 5 ≤ 2 ^ L := Nat.pow_le_pow_right (by omega) (by omega)
  have hwn : ∀ x, x ∈ w → 0 ≤ x ∧ x ≤ 1073741824 := fun x hx => by have := hwx x hx; omega
  have hB := lensB_ok hw1 (by omega) hwn (L := L) (by omega) (by omega)
  have hbr : bestR w (L : Int) = (lensB w L, costW w (lensB w L) w.length 0, 0) := by
    unfold bestR
    rw [if_pos ⟨by rw [lenB_iff.2 (by omega), okB_iff.2 hwn]; rfl, by omega, by omega⟩, Int.toNat_natCast, if_pos (by omega)]
  have hbe := best_ev w (L : Int) (by omega)
  rw [hbr] at hbe
  have hcost := hB.cost
  have hopt := hB.opt
  have hlen := hB.len
  have hsum : 1 < w.length → sumI (lensB w L) = 4294967296 := fun h => by
    have hf := opt_full (ws := w) (L := L) (ps := pairsOf w (natL (lensB w L))) (fun x hx => (hwx x hx).1) (by omega) (by unfold IsFor; rw [pairs_for]) (pairs_fits.2 hB.fits) (by rw [pairs_cost]; exact hopt)
    have h32 := kraft_scale (m := L) (ps := pairsOf w (natL (lensB w L))) (pairs_fits.2 hB.fits).le (32 - L)
    rw [show L + (32 - L) = 32 by omega, hf, ← Nat.pow_add, show 32 - L + L = 32 by omega, pairs_kraft] at h32
    rw [sumI_nat hB.ok, hlen, h32]; rfl
  have hord : ∀ i k, i < w.length → k < w.length → w.getD k 0 < w.getD i 0 → (lensB w L).getD i 0 ≤ (lensB w L).getD k 0 := fun i k hi hk hlt => by
    have := opt_order hB.fits hopt hi hk hlt
    have a := hB.le i hi
    have b := hB.le k hk
    unfold natL at this
    omega
  obtain ⟨l, hl⟩ : ∃ l, lensB w L = l := ⟨_, rfl⟩
  obtain ⟨c, hc⟩ : ∃ c, costW w l w.length 0 = c := ⟨_, rfl⟩
  have hok := hB.ok
  rw [hl] at hbe hcost hopt hlen hsum hord hok
  rw [← hcost, hc] at hopt
  rw [hc] at hbe
  have hl2 : Ev (fun k => turndownlaw06_CodeFull.l2 k (L : Int) l2 w c [] 0) true := full_l2 (by omega) hw1 (by omega) (by omega) hwn hopt w.length 0 [] (by omega) rfl rfl
  have hl0 : Ev (fun k => turndownlaw06_CodeFull.l0 k (L : Int) l2 w l c 0) true := full_l0 (by omega) hlen hord hl2 l.length 0 (by omega)
  have hj1 : Ev (fun k => turndownlaw06_CodeFull.j1 k (L : Int) l2 w l c false) true := Ev.step (fun k => by rw [turndownlaw06_CodeFull.j1, if_neg (by simp)]) hl0
  have hj0 : Ev (fun k => turndownlaw06_CodeFull.j0 k (L : Int) l2 w l c false) true := by
    by_cases hgt : (w.length : Int) > 1
    · have hs := refSum_ev (l := l) (by omega) hok
      rw [hsum (by omega)] at hs
      refine Ev.step (fun k => ?_) (Ev.bind (f := fun k (t349 : Int) => turndownlaw06_CodeFull.j1 k (L : Int) l2 w l c (t349 != 4294967296)) hs ?_)
      · rw [turndownlaw06_CodeFull.j0, if_neg (by simp), if_pos hgt]
      · exact hj1
    · refine Ev.step (fun k => ?_) hj1
      rw [turndownlaw06_CodeFull.j0, if_neg (by simp), if_neg hgt]
  refine Ev.rounds (Ev.congr (fun k => ?_) (Ev.bind (f := fun k (t338 : List Int) => ((turndownlaw06_mod.f a1 28).bind fun t341 => ((code_Best.f k t338 (wrap64 (5 + t341))).bind fun bt342 => (if bt342.2.2 = 0 then (if (bt342.1.length : Int) = (t338.length : Int) then ((turndownref06_Lengths.f k bt342.1).bind fun t347 => (if t347 = true then ((turndownref06_Cost.f k t338 bt342.1).bind fun t348 => (turndownlaw06_CodeFull.j0 k (wrap64 (5 + t341)) l2 t338 bt342.1 bt342.2.1 (t348 != bt342.2.1))) else (turndownlaw06_CodeFull.j0 k (wrap64 (5 + t341)) l2 t338 bt342.1 bt342.2.1 true))) else (turndownlaw06_CodeFull.j0 k (wrap64 (5 + t341)) l2 t338 bt342.1 bt342.2.1 true)) else (turndownlaw06_CodeFull.j0 k (wrap64 (5 + t341)) l2 t338 bt342.1 bt342.2.1 true))))) hw ?_))
  · rfl
  · simp only [mod_all a1 (show (1 : Int) ≤ 28 by omega) (show (28 : Int) ≤ 1000000000000 by omega), Option.bind_some, hwr]
    refine Ev.bind hbe ?_
    simp only [if_true, if_pos (show (l.length : Int) = (w.length : Int) by omega)]
    have b1 := refLengths_ev (l := l) (by omega)
    have e1 : (okB 0 32 l && lenB l) = true := by rw [hok, lenB_iff.2 (by omega)]; rfl
    rw [e1] at b1
    refine Ev.bind b1 ?_
    simp only [if_true]
    have b3 := refCost_ev (ws := w) (ls := l) (by omega) (by omega)
    rw [hc] at b3
    refine Ev.bind b3 ?_
    have : (c != c) = false := by simp
    simp only [this]
    exact hj0
end Go.Proofs.Ytcpojohpmcnnhaa.Pure

namespace Go.Proofs.Ytcpojohpmcnnhaa.codeFull
open Go.ChangeShapes Go.WideShapes Go.ChangeAt Go.RowKit
open Go.ChangeMaps (open_string shut_string)
set_option linter.unusedVariables false
theorem own : ownKnob Try.prog.godebug = none := by kernel_rfl
theorem laidOut : laidOutB Try.prog = true := by kernel_rfl
def IsRow (k : IntKind) (w : World) (a : Option Addr) (len cap : Nat) (zs : List Int) : Prop :=
 (a = none ∧ len = 0 ∧ cap = 0 ∧ zs = []) ∨
 ∃ x, a = some x ∧ len ≤ cap ∧ cap ≤ maxLen ∧ zs.length = cap ∧ (∀ i, i < zs.length → w.cell? (x.add i) = some (.int k (zs.getD i 0))) ∧ ∀ n ∈ zs, (Lit.int k n).wf = true
set_option maxRecDepth 100000 in
theorem lifted (os : Os) (started : os.Started) (H : Type) (enc : TypeId × Value → H) :
  ReturnsInHanded {} Try.checked os 8 .any (Rows.codeFullSpec.pre6 enc Try.prog Try.f8 Rows.codeFullRow.domain false) (Rows.codeFullSpec.post enc Try.prog Try.f8 false true false false) := by
 refine returnsInHanded_of_change_sized (C := Try.checked) own started (by kernel_rfl) Try.func8
  (ChangeSpec.witness6 (enc := enc) (C := Try.checked) false ⟨#[], #[.slice none 0 0, .int .i64 0, .slice none 0 0], []⟩ 8 (by kernel_rfl) (by kernel_rfl) (by kernel_rfl) (by kernel_rfl)) ?_
 intro W base args ds gs before hval0 hW hcnd hsz0 _
 have hsz : (DataW.weightsEach Try.prog (Try.f8.params.toList ++ Rows.codeFullSpec.plain.varTypes Try.prog) (ds ++ gs)).all (· ≤ reachBytes) = true := hsz0
 have hval : ∀ (j : Nat) t v, Try.f8.params[j]? = some t → args[j]? = some v → Value.okWide Try.prog W .any base t v := hval0
 have hW' := hW
 obtain ⟨p, q, hA0, hV, rfl, hfz, hnd⟩ := hW
 have hA : DataW.TrodAll enc Try.prog W 0 (fun _ => true) true Try.f8.params.toList args.toList ds p := hA0
 rw [Try.params8] at hA hval hsz
 obtain ⟨v0, vs0, d0, ds0, p0, q0, hargs, rfl, rfl, h0, r0⟩ := trodAll_cons hA
 obtain ⟨v1, vs1, d1, ds1, p1, q1, rfl, rfl, rfl, h1, r1⟩ := trodAll_cons r0
 obtain ⟨v2, vs2, d2, ds2, p2, q2, rfl, rfl, rfl, h2, r2⟩ := trodAll_cons r1
 obtain ⟨rfl, rfl, rfl⟩ := trodAll_nil r2
 obtain rfl : args = #[v0, v1, v2] := by cases args; simp_all
 obtain ⟨rfl, rfl⟩ := trodVars_none hV
 obtain ⟨a0, len0, cap0, rfl⟩ := okWide_slice Try.underlying22 (hval 0 22 v0 rfl rfl)
 have k0 := h0
 have lt0 : ∀ x ∈ p0, x.block < W.heap.size := by obtain ⟨m, hm⟩ := k0; exact DataW.trod_lt m _ _ _ hm
 obtain ⟨z0, w0⟩ : ∃ zs, IsRow .i64 W a0 len0 cap0 zs := by
  obtain ⟨fuel, hf⟩ := h0
  rcases open_ints Try.underlying22 Try.underlying3 (by kernel_rfl) hf with ⟨hcs, _⟩ | ⟨x, l, c, zs, hcs, _, hl, hm, hz, _, hcell, hwz⟩
  ·
   simp [Value.cells] at hcs
   obtain ⟨rfl, rfl, rfl⟩ := hcs
   exact ⟨[], .inl ⟨rfl, rfl, rfl, rfl⟩⟩
  ·
   simp [Value.cells] at hcs
   obtain ⟨rfl, rfl, rfl⟩ := hcs
   exact ⟨zs, .inr ⟨_, rfl, hl, hm, by simpa using hz, hcell, hwz⟩⟩
 have y0 : len0 * 8 ≤ 140737488351232 := Go.Proofs.YtcpojohpmcnnhaaW.PrintWords.sized_ints hsz (j := 0) (t := 22) rfl rfl Try.underlying22 Try.underlying3 (by kernel_rfl) (by kernel_rfl) h0
 obtain ⟨a1, rfl, rfl, rfl, w1⟩ := open_int Try.underlying3 (hval 1 3 v1 rfl rfl) h1
 obtain ⟨a2, len2, cap2, rfl⟩ := okWide_slice Try.underlying22 (hval 2 22 v2 rfl rfl)
 have k2 := h2
 have lt2 : ∀ x ∈ p2, x.block < W.heap.size := by obtain ⟨m, hm⟩ := k2; exact DataW.trod_lt m _ _ _ hm
 obtain ⟨z2, w2⟩ : ∃ zs, IsRow .i64 W a2 len2 cap2 zs := by
  obtain ⟨fuel, hf⟩ := h2
  rcases open_ints Try.underlying22 Try.underlying3 (by kernel_rfl) hf with ⟨hcs, _⟩ | ⟨x, l, c, zs, hcs, _, hl, hm, hz, _, hcell, hwz⟩
  ·
   simp [Value.cells] at hcs
   obtain ⟨rfl, rfl, rfl⟩ := hcs
   exact ⟨[], .inl ⟨rfl, rfl, rfl, rfl⟩⟩
  ·
   simp [Value.cells] at hcs
   obtain ⟨rfl, rfl, rfl⟩ := hcs
   exact ⟨zs, .inr ⟨_, rfl, hl, hm, by simpa using hz, hcell, hwz⟩⟩
 have y2 : len2 * 8 ≤ 140737488351232 := Go.Proofs.YtcpojohpmcnnhaaW.PrintWords.sized_ints hsz (j := 2) (t := 22) rfl rfl Try.underlying22 Try.underlying3 (by kernel_rfl) (by kernel_rfl) h2
 clear hA0 hval0 hsz0 hsz
 refine (PA.turndownlaw06_CodeFull.walk Pure.CodeFull a0 len0 cap0 z0 a1 a2 len2 cap2 z2 W w0 y0 w1 w2 y2).mono fun e W' ⟨he, bel⟩ => ?_
 subst he
 exact ⟨_, rfl, _, _, _, [], _, [], hW', trodAll_mk1 (shut_bool Try.underlying4 _), (trodAll_cons_mk (Below.trod laidOut (by kernel_rfl) (of_decide_eq_true (by kernel_rfl)) k0 bel lt0) (trodAll_cons_mk (shut_int Try.underlying3 w1) (trodAll_cons_mk (Below.trod laidOut (by kernel_rfl) (of_decide_eq_true (by kernel_rfl)) k2 bel lt2) trodAll_mk0))), rfl, bel.frame _, fun h => by cases h⟩
theorem over : Rows.codeFullRow.holds Try.pinned (OpenSpec.ofChange Rows.codeFullSpec) :=
 OpenClaim.holds_of_wide 8 Try.f8 rfl rfl rfl rfl rfl rfl rfl ⟨rfl, rfl, rfl, rfl, rfl⟩ rfl rfl rfl rfl rfl (by kernel_rfl) Try.func8 (by kernel_rfl)
  (of_decide_eq_true (by kernel_rfl)) (by unfold Func.isWrapper; first | (rw [if_pos (by decide +kernel)]; kernel_rfl) | (rw [if_neg (by decide +kernel)]; exact ⟨rfl, rfl⟩))
  (fun os started H enc _ => lifted os started H enc)
theorem proved : Rows.CodeFullSaid := over
end Go.Proofs.Ytcpojohpmcnnhaa.codeFull
namespace Go.Proofs.Ytcpojohpmcnnhaa
theorem codeFull_holds : Rows.CodeFullSaid := codeFull.proved
end Go.Proofs.Ytcpojohpmcnnhaa
