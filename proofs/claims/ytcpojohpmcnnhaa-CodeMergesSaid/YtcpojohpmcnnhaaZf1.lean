/- For all lists of weights the statement CodeMerges holds: Go's function returns true and changes nothing that existed. -/
import Derived.SizedLaws
import Derived.ChangeSlices
import Derived.Test.YtcpojohpmcnnhaaRows
import Derived.WalkKit
import Derived.ProofKit
import Derived.OpenShut
import Derived.ShutString
import Derived.ChangeOld
import Derived.Below
import Derived.Test.YtcpojohpmcnnhaaZb9
set_option linter.unusedSimpArgs false
set_option linter.unusedVariables false

namespace Go.Proofs.YtcpojohpmcnnhaaW.PrintWords
open Go.ChangeShapes Go.WideShapes
theorem sized_ints {H : Type} {enc : TypeId × Value → H} {P : Program} {W : World} {base : Nat} {spare : Nat → Bool} {held : Bool} {t e : TypeId} {k : IntKind} {a : Option Addr} {len cap : Nat} {d : DataW H} {ps : List MemPlace} {ts : List TypeId} {ds : List (DataW H)} {j : Nat}
    (hsz : (DataW.weightsEach P ts ds).all (· ≤ reachBytes) = true) (ht : ts[j]? = some t) (hd : ds[j]? = some d) (hu : P.underlying t = some (.slice e)) (he : P.underlying e = some (.int k)) (hc : P.cellsOf e = 1) {B : Nat} (hB : P.bytesOf e = B)
    (h : DataW.Trod enc P W base spare held t (.slice a len cap) d ps) : len * B ≤ 140737488351232 := by
  obtain ⟨fuel, hf⟩ := h
  rcases open_ints hu he hc hf with ⟨hcs, _⟩ | ⟨x, l, c, zs, hcs, _, hl, _, hz, hx, _, _⟩
  · simp [Value.cells] at hcs
    obtain ⟨rfl, rfl, rfl⟩ := hcs
    simp
  · simp [Value.cells] at hcs
    obtain ⟨rfl, rfl, rfl⟩ := hcs
    obtain ⟨hx, _⟩ := Prod.mk.inj hx
    subst hx
    have z := sized_slice hsz ht hd hu
    rw [hB] at z
    have hl2 : len ≤ zs.length := by
      rw [hz]
      split
      · exact hl
      · exact Nat.le_refl _
    have h1 : (lits (H := H) k (zs.take len)).length + (lits (H := H) k (zs.drop len)).length = zs.length := by
      simp [lits]
      omega
    rw [h1] at z
    exact Nat.le_trans (Nat.mul_le_mul_right _ hl2) z
end Go.Proofs.YtcpojohpmcnnhaaW.PrintWords

namespace Go.Proofs.Ytcpojohpmcnnhaa.PA
open Go.RowKit Go.Proofs.YtcpojohpmcnnhaaW.PrintWords Go.Proofs.YtcpojohpmcnnhaaW.PrintLast Go.Proofs.YtcpojohpmcnnhaaW.PrintMore
attribute [local go_sem] max2_int min2_int max_two min_two max_three min_three max_four min_four
set_option linter.unusedVariables false
set_option linter.unusedSimpArgs false
def turndownlaw06_mod.f (a0 : Int) (a1 : Int) : Option (Int) := if (IntKind.u64.wrap (a1)) = 0 then (none) else (some (wrap64 (Int.tmod (IntKind.u64.wrap (a0)) (IntKind.u64.wrap (a1)))))
set_option maxHeartbeats 8000000 in
set_option maxRecDepth 100000 in
theorem turndownlaw06_mod.calls (a0 : Int) (a1 : Int) (r : Int) (w : World) (h : turndownlaw06_mod.f a0 a1 = some r) :
  Calls Try.prog 39 #[.int .i64 a0, .int .i64 a1] w fun e w' => e = .returned (.int .i64 r) ∧ Drawn0 w w' := by
 have H : (if (IntKind.u64.wrap (a1)) = 0 then (none) else (some (wrap64 (Int.tmod (IntKind.u64.wrap (a0)) (IntKind.u64.wrap (a1)))))) = some r := h
 clear h
 by_cases c3 : (IntKind.u64.wrap (a1)) = 0
 ·
  rw [if_pos c3] at H
  exact absurd H (by simp)
 ·
  rw [if_neg c3] at H
  have c3b0 : ((IntKind.u64.wrap (a1)) == 0) = false := beq_eq_false_iff_ne.mpr c3
  have c3b1 : ((IntKind.u64.wrap (a1)) != 0) = true := bne_iff_ne.mpr c3
  obtain rfl := Option.some.inj H
  go_enter Try.func39, Try.ntmps39
  go_wp2
  go_ret
  exact ⟨by first | rfl | (simp; done) | (simp [*]; done), by repeat (first | exact Drawn0.refl _ | apply Drawn0.step)⟩
end Go.Proofs.Ytcpojohpmcnnhaa.PA

namespace Go.Proofs.Ytcpojohpmcnnhaa.PA
open Go.RowKit Go.Proofs.YtcpojohpmcnnhaaW.PrintWords Go.Proofs.YtcpojohpmcnnhaaW.PrintLast Go.Proofs.YtcpojohpmcnnhaaW.PrintMore
attribute [local go_sem] max2_int min2_int max_two min_two max_three min_three max_four min_four
set_option linter.unusedVariables false
set_option linter.unusedSimpArgs false
mutual
def turndownlaw06_tame.l0 : Nat → List Int → Int → Int → List Int → Int → Option (List Int)
 | 0, _, _, _, _, _ => none
 | k + 1, x0, x1, x2, x7, x8 => if x8 < (x0.length : Int) then (turndownlaw06_tame.j1 k x0 x1 x2 x7 x8 (decide (x8 < x1))) else (turndownlaw06_tame.j1 k x0 x1 x2 x7 x8 false)
def turndownlaw06_tame.j1 : Nat → List Int → Int → Int → List Int → Int → Bool → Option (List Int)
 | 0, _, _, _, _, _, _ => none
 | k + 1, x0, x1, x2, x7, x8, x18 => if x18 = true then (if 0 ≤ x8 then (if x8 < (x0.length : Int) then (if (rd x0 x8) < x2 then ((turndownlaw06_mod.f (rd x0 x8) 1000).bind fun t324 => (if x7.length < 17592186044416 then (turndownlaw06_tame.l0 k x0 x1 x2 (x7 ++ [wrap64 (x2 + t324)]) (wrap64 (x8 + 1))) else (none))) else (if (rd x0 x8) > 1073741824 then ((turndownlaw06_mod.f (rd x0 x8) 1000).bind fun t328 => (if x7.length < 17592186044416 then (turndownlaw06_tame.l0 k x0 x1 x2 (x7 ++ [wrap64 (x2 + t328)]) (wrap64 (x8 + 1))) else (none))) else (if x7.length < 17592186044416 then (turndownlaw06_tame.l0 k x0 x1 x2 (x7 ++ [rd x0 x8]) (wrap64 (x8 + 1))) else (none)))) else (none)) else (none)) else (if (x7.length : Int) = 0 then (if x7.length < 17592186044416 then (some (x7 ++ [1])) else (none)) else (some x7))
end
def turndownlaw06_tame.f (k : Nat) (l0 : List Int) (a1 : Int) (a2 : Int) : Option (List Int) := turndownlaw06_tame.l0 k l0 a1 a2 ([] : List Int) 0
set_option maxHeartbeats 8000000 in
set_option maxRecDepth 100000 in
theorem turndownlaw06_tame.calls (k : Nat) (A0 : Option Addr) (c0 : Nat) (l0 : List Int) (a1 : Int) (a2 : Int) (r : List Int) (w : World) (hr0 : Kd.C (Kd.int .i64) w A0 l0.length l0) (hc0 : l0.length ≤ c0) (h : turndownlaw06_tame.f k l0 a1 a2 = some r) :
  Calls Try.prog 38 #[.slice A0 l0.length c0, .int .i64 a1, .int .i64 a2] w fun e w' => ∃ v0_ : Value, e = .returned (v0_) ∧ Kd.R (Kd.int .i64) 3 w' w.heap.size (fun _ => True) v0_ r ∧ Below w.heap.size w w' := by
 have HR0 := Aside0.mk hr0
 have HC0 := Aside0.mk hc0
 clear hr0 hc0
 have HB := Aside0.mk (Below.refl w.heap.size w)
 have H : (turndownlaw06_tame.l0 k l0 a1 a2 ([] : List Int) 0) = some r := h
 clear h
 have H' := Aside0.mk H
 clear H
 go_enter Try.func38, Try.ntmps38
 go_wp2
 go_loopg [7, 8] k (fun kq v7 v8 w' => ∃ (x7_1 : List Int) (x8_1 : Int), v8 = .int .i64 x8_1 ∧ Aside0 (turndownlaw06_tame.l0 kq l0 a1 a2 x7_1 x8_1 = some r) ∧ Aside0 (kq ≤ k) ∧ Aside0 (Kd.R (Kd.int .i64) 3 w' w.heap.size (fun _ => True) v7 x7_1) ∧ Aside0 (Below w.heap.size w w'))
 case atStart => exact ⟨(([] : List Int)), (0), (by first | rfl | (simp; done) | (simp [*]; done)), H', ⟨Nat.le_refl _⟩, ⟨by first | exact Kd.R_nil _ _ _ _ _ | exact Kd.N_nil _ _ _ _ _ | exact Kd.V_nil _ _ _ _ _ | exact Kd.Q_nil _ _ _ _ _ | exact Kd.S_nil _ _ _ _ _⟩, ⟨by repeat (first | (with_reducible first | exact HB.out | apply below_alloc | apply pw_below_drewN | apply below_drew1) | exact HB.out)⟩⟩
 case round =>
  clear H'
  try clear p2
  try clear c3
  obtain ⟨x7_1, x8_1, rfl, HA, HK1, HO_7, HB⟩ := hrel
  cases gk with
  | zero => exact absurd HA.out (by simp [turndownlaw06_tame.l0])
  | succ k1 =>
   have H := HA.out
   clear HA
   simp only [turndownlaw06_tame.l0] at H
   have HC4 := Aside0.mk H
   clear H
   go_upto_region 3 with (fail)
   go_cut [18] (fun v18 wc => ∃ (kq : Nat) (x18_3 : Bool), v18 = .bool x18_3 ∧ Aside0 (turndownlaw06_tame.j1 kq l0 a1 a2 x7_1 x8_1 x18_3 = some r) ∧ Aside0 (kq ≤ k1) ∧ Aside0 (Kd.R (Kd.int .i64) 3 wc w.heap.size (fun _ => True) u7 x7_1) ∧ Aside0 (Below w.heap.size w wc))
   case first =>
    have H := HC4.out
    clear HC4
    by_cases c5 : x8_1 < (l0.length : Int)
    ·
     rw [if_pos c5] at H
     have c5b0 : decide (x8_1 < (l0.length : Int)) = true := decide_eq_true c5
     clear c5
     (first | rw [c5b0] | (simp only [i64_w, i32_w]; rw [c5b0]) | skip)
     have H' := Aside0.mk H
     clear H
     go_wp2
     go_meet
     case rel => exact ⟨_, (decide (x8_1 < a1)), (by first | rfl | (simp; done) | (simp [*]; done)), H', ⟨by have := HK1.out; first | omega | exact Nat.le_refl _⟩, ⟨by (with_reducible repeat (first | apply Kd.R_alloc | apply Kd.R_drewN | apply Kd.R_drew)); exact HO_7.out⟩, ⟨by repeat (first | (with_reducible first | exact HB.out | apply below_alloc | apply pw_below_drewN | apply below_drew1) | exact HB.out)⟩⟩
    ·
     rw [if_neg c5] at H
     have c5b0 : decide (x8_1 < (l0.length : Int)) = false := decide_eq_false c5
     clear c5
     (first | rw [c5b0] | (simp only [i64_w, i32_w]; rw [c5b0]) | skip)
     have H' := Aside0.mk H
     clear H
     go_wp2
     go_meet
     case rel => exact ⟨_, (false), (by first | rfl | (simp; done) | (simp [*]; done)), H', ⟨by have := HK1.out; first | omega | exact Nat.le_refl _⟩, ⟨by (with_reducible repeat (first | apply Kd.R_alloc | apply Kd.R_drewN | apply Kd.R_drew)); exact HO_7.out⟩, ⟨by repeat (first | (with_reducible first | exact HB.out | apply below_alloc | apply pw_below_drewN | apply below_drew1) | exact HB.out)⟩⟩
   case rest =>
    clear HC4
    try clear p2
    try clear c3
    try clear c5
    try clear c5b0
    try clear p2
    obtain ⟨kq, x18_3, rfl, HA, HJ3, HO_7, HB⟩ := hcut
    cases kq with
    | zero => exact absurd HA.out (by simp [turndownlaw06_tame.j1])
    | succ kj3 =>
     have H := HA.out
     clear HA
     simp only [turndownlaw06_tame.j1] at H
     by_cases c6 : x18_3 = true
     ·
      subst c6
      have H1 : (if 0 ≤ x8_1 then (if x8_1 < (l0.length : Int) then (if (rd l0 x8_1) < a2 then ((turndownlaw06_mod.f (rd l0 x8_1) 1000).bind fun t324 => (if x7_1.length < 17592186044416 then (turndownlaw06_tame.l0 kj3 l0 a1 a2 (x7_1 ++ [wrap64 (a2 + t324)]) (wrap64 (x8_1 + 1))) else (none))) else (if (rd l0 x8_1) > 1073741824 then ((turndownlaw06_mod.f (rd l0 x8_1) 1000).bind fun t328 => (if x7_1.length < 17592186044416 then (turndownlaw06_tame.l0 kj3 l0 a1 a2 (x7_1 ++ [wrap64 (a2 + t328)]) (wrap64 (x8_1 + 1))) else (none))) else (if x7_1.length < 17592186044416 then (turndownlaw06_tame.l0 kj3 l0 a1 a2 (x7_1 ++ [rd l0 x8_1]) (wrap64 (x8_1 + 1))) else (none)))) else (none)) else (none)) = some r := by rw [if_pos rfl] at H; exact H
      clear H
      have H := H1
      clear H1
      by_cases c7 : 0 ≤ x8_1
      ·
       rw [if_pos c7] at H
       have c7b0 : decide (0 ≤ x8_1) = true := decide_eq_true c7
       clear c7
       by_cases c8 : x8_1 < (l0.length : Int)
       ·
        rw [if_pos c8] at H
        have c8b0 : decide (x8_1 < (l0.length : Int)) = true := decide_eq_true c8
        clear c8
        by_cases c9 : (rd l0 x8_1) < a2
        ·
         rw [if_pos c9] at H
         have c9b0 : decide ((rd l0 x8_1) < a2) = true := decide_eq_true c9
         clear c9
         replace H := Option.bind_eq_some_iff.mp H
         obtain ⟨t324, A100, H⟩ := H
         replace H : (if x7_1.length < 17592186044416 then (turndownlaw06_tame.l0 kj3 l0 a1 a2 (x7_1 ++ [wrap64 (a2 + t324)]) (wrap64 (x8_1 + 1))) else (none)) = some r := H
         have A10 := Aside0.mk A100
         clear A100
         by_cases c11 : x7_1.length < 17592186044416
         ·
          rw [if_pos c11] at H
          have LMc11 := Aside0.mk c11
          clear c11
          obtain ⟨y325, hy325⟩ : ∃ y_ : List Int, y_ = (x7_1 ++ [wrap64 (a2 + t324)]) := ⟨_, rfl⟩
          replace H : (turndownlaw06_tame.l0 kj3 l0 a1 a2 y325 (wrap64 (x8_1 + 1))) = some r := by first | (rw [hy325]; with_reducible exact H) | (have H2_ := (Option.bind_some _ _).symm.trans H; rw [hy325]; with_reducible exact H2_) | (have H2_ := (Option.bind_some _ _).symm.trans H; with_reducible exact H2_) | with_reducible exact H | (rw [hy325]; exact H) | exact H
          have Ny325 := Aside0.mk hy325
          clear hy325
          have H' := Aside0.mk H
          clear H
          have p323 : 0 ≤ (x8_1 : Int) := of_decide_eq_true (by first | (with_reducible assumption) | assumption)
          have q323 : x8_1 < (l0.length : Int) := of_decide_eq_true (by first | (with_reducible assumption) | assumption)
          obtain ⟨ad323, e323, hx323_0⟩ := Kd.at_int HR0.out x8_1 p323 q323
          cases e323
          replace hx323_0 := (HB.out.cell (World.block_lt_of_cell? w _ hx323_0)).trans hx323_0
          replace p323 := eq_true p323
          replace q323 := eq_true q323
          go_wp2_with (first | ((with_reducible refine gate_callee (f := 39) rfl ?_); refine goesL_ (some 34) rfl rfl Try.func39 (by kernel_rfl) rfl #[.int .i64 (rd l0 x8_1), .int .i64 1000] rfl (by (try simp only [List.map_toArray, List.map_cons, List.map_nil]); first | done | rfl | (simp only [List.length_drop, List.length_take]; rfl)) ?_; (with_reducible refine (turndownlaw06_mod.calls (rd l0 x8_1) 1000 t324 _ A10.out).mono ?_); rintro e w' ⟨rfl, ⟨nd, rfl⟩⟩; refine ⟨_, rfl, ?_⟩) | ((with_reducible refine gate_builtin (b := .append) (xs := #[.tmp 36, .tmp 38]) rfl ?_); at_builtin; refine Kd.R_append (Kd.int .i64) (w0 := w) w.heap.size rfl (.tmp 36) (.tmp 38) 22 3 (.int .i64 0) 8 rfl Try.underlying22 info3 rfl (by decide) (by omega) u7 x7_1 (wrap64 (a2 + t324)) [.int .i64 (wrap64 (a2 + t324))] (fun _ => True) (fun _ => False) rfl rfl ?aP (fun _ hk => hk.elim) ?aF ?aO ?aB ?aS ?aL ?_; (case aP => exact rfl); (case aB => exact (by repeat (first | (with_reducible first | exact HB.out | apply below_alloc | apply pw_below_drewN | apply below_drew1) | exact HB.out))); (case aF => exact (fun _ _ => trivial)); (case aO => exact (by (with_reducible repeat (first | apply Kd.R_alloc | apply Kd.R_drewN | apply Kd.R_drew)); exact HO_7.out)); (case aS => exact (below_size (by repeat (first | (with_reducible first | exact HB.out | apply below_alloc | apply pw_below_drewN | apply below_drew1) | exact HB.out)))); (case aL => have := LMc11.out; omega); intro v326 w12 ho hb hg hat; rw [← Ny325.out] at ho; have n0_ := Aside0.mk (hb); have n1_ := Aside0.mk (ho); clear HB; clear HO_7; have HB := n0_; have HO327 := n1_; clear n0_ n1_; clear ho hb hg hat))
          go_roundg kj3
          case measure => have := HK1.out; have := HJ3.out; omega
          case rel => exact ⟨(y325), (wrap64 (x8_1 + 1)), (by first | rfl | (simp; done) | (simp [*]; done)), H', ⟨by have := HK1.out; have := HJ3.out; omega⟩, ⟨by (with_reducible repeat (first | apply Kd.R_alloc | apply Kd.R_drewN | apply Kd.R_drew)); exact HO327.out⟩, ⟨by repeat (first | (with_reducible first | exact HB.out | apply below_alloc | apply pw_below_drewN | apply below_drew1) | exact HB.out)⟩⟩
         ·
          rw [if_neg c11] at H
          exact absurd H (by simp)
        ·
         rw [if_neg c9] at H
         have c9b0 : decide ((rd l0 x8_1) < a2) = false := decide_eq_false c9
         clear c9
         by_cases c13 : (rd l0 x8_1) > 1073741824
         ·
          rw [if_pos c13] at H
          have c13b0 : decide (1073741824 < (rd l0 x8_1)) = true := decide_eq_true c13
          clear c13
          replace H := Option.bind_eq_some_iff.mp H
          obtain ⟨t328, A140, H⟩ := H
          replace H : (if x7_1.length < 17592186044416 then (turndownlaw06_tame.l0 kj3 l0 a1 a2 (x7_1 ++ [wrap64 (a2 + t328)]) (wrap64 (x8_1 + 1))) else (none)) = some r := H
          have A14 := Aside0.mk A140
          clear A140
          by_cases c15 : x7_1.length < 17592186044416
          ·
           rw [if_pos c15] at H
           have LMc15 := Aside0.mk c15
           clear c15
           obtain ⟨y329, hy329⟩ : ∃ y_ : List Int, y_ = (x7_1 ++ [wrap64 (a2 + t328)]) := ⟨_, rfl⟩
           replace H : (turndownlaw06_tame.l0 kj3 l0 a1 a2 y329 (wrap64 (x8_1 + 1))) = some r := by first | (rw [hy329]; with_reducible exact H) | (have H2_ := (Option.bind_some _ _).symm.trans H; rw [hy329]; with_reducible exact H2_) | (have H2_ := (Option.bind_some _ _).symm.trans H; with_reducible exact H2_) | with_reducible exact H | (rw [hy329]; exact H) | exact H
           have Ny329 := Aside0.mk hy329
           clear hy329
           have H' := Aside0.mk H
           clear H
           have p323 : 0 ≤ (x8_1 : Int) := of_decide_eq_true (by first | (with_reducible assumption) | assumption)
           have q323 : x8_1 < (l0.length : Int) := of_decide_eq_true (by first | (with_reducible assumption) | assumption)
           obtain ⟨ad323, e323, hx323_0⟩ := Kd.at_int HR0.out x8_1 p323 q323
           cases e323
           replace hx323_0 := (HB.out.cell (World.block_lt_of_cell? w _ hx323_0)).trans hx323_0
           replace p323 := eq_true p323
           replace q323 := eq_true q323
           go_wp2_with (first | ((with_reducible refine gate_callee (f := 39) rfl ?_); refine goesL_ (some 34) rfl rfl Try.func39 (by kernel_rfl) rfl #[.int .i64 (rd l0 x8_1), .int .i64 1000] rfl (by (try simp only [List.map_toArray, List.map_cons, List.map_nil]); first | done | rfl | (simp only [List.length_drop, List.length_take]; rfl)) ?_; (with_reducible refine (turndownlaw06_mod.calls (rd l0 x8_1) 1000 t328 _ A14.out).mono ?_); rintro e w' ⟨rfl, ⟨nd, rfl⟩⟩; refine ⟨_, rfl, ?_⟩) | ((with_reducible refine gate_builtin (b := .append) (xs := #[.tmp 36, .tmp 38]) rfl ?_); at_builtin; refine Kd.R_append (Kd.int .i64) (w0 := w) w.heap.size rfl (.tmp 36) (.tmp 38) 22 3 (.int .i64 0) 8 rfl Try.underlying22 info3 rfl (by decide) (by omega) u7 x7_1 (wrap64 (a2 + t328)) [.int .i64 (wrap64 (a2 + t328))] (fun _ => True) (fun _ => False) rfl rfl ?aP (fun _ hk => hk.elim) ?aF ?aO ?aB ?aS ?aL ?_; (case aP => exact rfl); (case aB => exact (by repeat (first | (with_reducible first | exact HB.out | apply below_alloc | apply pw_below_drewN | apply below_drew1) | exact HB.out))); (case aF => exact (fun _ _ => trivial)); (case aO => exact (by (with_reducible repeat (first | apply Kd.R_alloc | apply Kd.R_drewN | apply Kd.R_drew)); exact HO_7.out)); (case aS => exact (below_size (by repeat (first | (with_reducible first | exact HB.out | apply below_alloc | apply pw_below_drewN | apply below_drew1) | exact HB.out)))); (case aL => have := LMc15.out; omega); intro v330 w16 ho hb hg hat; rw [← Ny329.out] at ho; have n0_ := Aside0.mk (hb); have n1_ := Aside0.mk (ho); clear HB; clear HO_7; have HB := n0_; have HO331 := n1_; clear n0_ n1_; clear ho hb hg hat))
           go_roundg kj3
           case measure => have := HK1.out; have := HJ3.out; omega
           case rel => exact ⟨(y329), (wrap64 (x8_1 + 1)), (by first | rfl | (simp; done) | (simp [*]; done)), H', ⟨by have := HK1.out; have := HJ3.out; omega⟩, ⟨by (with_reducible repeat (first | apply Kd.R_alloc | apply Kd.R_drewN | apply Kd.R_drew)); exact HO331.out⟩, ⟨by repeat (first | (with_reducible first | exact HB.out | apply below_alloc | apply pw_below_drewN | apply below_drew1) | exact HB.out)⟩⟩
          ·
           rw [if_neg c15] at H
           exact absurd H (by simp)
         ·
          rw [if_neg c13] at H
          have c13b0 : decide (1073741824 < (rd l0 x8_1)) = false := decide_eq_false c13
          clear c13
          by_cases c17 : x7_1.length < 17592186044416
          ·
           rw [if_pos c17] at H
           have LMc17 := Aside0.mk c17
           clear c17
           obtain ⟨y332, hy332⟩ : ∃ y_ : List Int, y_ = (x7_1 ++ [rd l0 x8_1]) := ⟨_, rfl⟩
           replace H : (turndownlaw06_tame.l0 kj3 l0 a1 a2 y332 (wrap64 (x8_1 + 1))) = some r := by first | (rw [hy332]; with_reducible exact H) | (have H2_ := (Option.bind_some _ _).symm.trans H; rw [hy332]; with_reducible exact H2_) | (have H2_ := (Option.bind_some _ _).symm.trans H; with_reducible exact H2_) | with_reducible exact H | (rw [hy332]; exact H) | exact H
           have Ny332 := Aside0.mk hy332
           clear hy332
           have H' := Aside0.mk H
           clear H
           have p323 : 0 ≤ (x8_1 : Int) := of_decide_eq_true (by first | (with_reducible assumption) | assumption)
           have q323 : x8_1 < (l0.length : Int) := of_decide_eq_true (by first | (with_reducible assumption) | assumption)
           obtain ⟨ad323, e323, hx323_0⟩ := Kd.at_int HR0.out x8_1 p323 q323
           cases e323
           replace hx323_0 := (HB.out.cell (World.block_lt_of_cell? w _ hx323_0)).trans hx323_0
           replace p323 := eq_true p323
           replace q323 := eq_true q323
           go_wp2_with (first | ((with_reducible refine gate_builtin (b := .append) (xs := #[.tmp 36, .tmp 38]) rfl ?_); at_builtin; refine Kd.R_append (Kd.int .i64) (w0 := w) w.heap.size rfl (.tmp 36) (.tmp 38) 22 3 (.int .i64 0) 8 rfl Try.underlying22 info3 rfl (by decide) (by omega) u7 x7_1 (rd l0 x8_1) [.int .i64 (rd l0 x8_1)] (fun _ => True) (fun _ => False) rfl rfl ?aP (fun _ hk => hk.elim) ?aF ?aO ?aB ?aS ?aL ?_; (case aP => exact rfl); (case aB => exact (by repeat (first | (with_reducible first | exact HB.out | apply below_alloc | apply pw_below_drewN | apply below_drew1) | exact HB.out))); (case aF => exact (fun _ _ => trivial)); (case aO => exact (by (with_reducible repeat (first | apply Kd.R_alloc | apply Kd.R_drewN | apply Kd.R_drew)); exact HO_7.out)); (case aS => exact (below_size (by repeat (first | (with_reducible first | exact HB.out | apply below_alloc | apply pw_below_drewN | apply below_drew1) | exact HB.out)))); (case aL => have := LMc17.out; omega); intro v333 w18 ho hb hg hat; rw [← Ny332.out] at ho; have n0_ := Aside0.mk (hb); have n1_ := Aside0.mk (ho); clear HB; clear HO_7; have HB := n0_; have HO334 := n1_; clear n0_ n1_; clear ho hb hg hat))
           go_roundg kj3
           case measure => have := HK1.out; have := HJ3.out; omega
           case rel => exact ⟨(y332), (wrap64 (x8_1 + 1)), (by first | rfl | (simp; done) | (simp [*]; done)), H', ⟨by have := HK1.out; have := HJ3.out; omega⟩, ⟨by (with_reducible repeat (first | apply Kd.R_alloc | apply Kd.R_drewN | apply Kd.R_drew)); exact HO334.out⟩, ⟨by repeat (first | (with_reducible first | exact HB.out | apply below_alloc | apply pw_below_drewN | apply below_drew1) | exact HB.out)⟩⟩
          ·
           rw [if_neg c17] at H
           exact absurd H (by simp)
       ·
        rw [if_neg c8] at H
        exact absurd H (by simp)
      ·
       rw [if_neg c7] at H
       exact absurd H (by simp)
     ·
      replace c6 := Bool.eq_false_iff.mpr c6
      subst c6
      have H1 : (if (x7_1.length : Int) = 0 then (if x7_1.length < 17592186044416 then (some (x7_1 ++ [1])) else (none)) else (some x7_1)) = some r := by rw [if_neg (show ¬ (false = true) by decide)] at H; exact H
      clear H
      have H := H1
      clear H1
      by_cases c19 : (x7_1.length : Int) = 0
      ·
       rw [if_pos c19] at H
       have c19b0 : ((x7_1.length : Int) == 0) = true := beq_iff_eq.mpr c19
       have c19b1 : ((x7_1.length : Int) != 0) = false := bne_eq_false_iff_eq.mpr c19
       clear c19
       by_cases c20 : x7_1.length < 17592186044416
       ·
        rw [if_pos c20] at H
        have LMc20 := Aside0.mk c20
        clear c20
        obtain ⟨y335, hy335⟩ : ∃ y_ : List Int, y_ = (x7_1 ++ [1]) := ⟨_, rfl⟩
        replace H : (some y335) = some r := by first | (rw [hy335]; with_reducible exact H) | (have H2_ := (Option.bind_some _ _).symm.trans H; rw [hy335]; with_reducible exact H2_) | (have H2_ := (Option.bind_some _ _).symm.trans H; with_reducible exact H2_) | with_reducible exact H | (rw [hy335]; exact H) | exact H
        have Ny335 := Aside0.mk hy335
        clear hy335
        obtain rfl := Option.some.inj H
        obtain ⟨Ao21, co21, eo21⟩ := Kd.R_slice HO_7.out
        subst eo21
        go_wp2_with (first | ((with_reducible refine gate_builtin (b := .append) (xs := #[.tmp 43, .tmp 44]) rfl ?_); at_builtin; refine Kd.R_append (Kd.int .i64) (w0 := w) w.heap.size rfl (.tmp 43) (.tmp 44) 22 3 (.int .i64 0) 8 rfl Try.underlying22 info3 rfl (by decide) (by omega) (.slice Ao21 x7_1.length co21) x7_1 1 [.int .i64 1] (fun _ => True) (fun _ => False) rfl rfl ?aP (fun _ hk => hk.elim) ?aF ?aO ?aB ?aS ?aL ?_; (case aP => exact rfl); (case aB => exact (by repeat (first | (with_reducible first | exact HB.out | apply below_alloc | apply pw_below_drewN | apply below_drew1) | exact HB.out))); (case aF => exact (fun _ _ => trivial)); (case aO => exact (by (with_reducible repeat (first | apply Kd.R_alloc | apply Kd.R_drewN | apply Kd.R_drew)); exact HO_7.out)); (case aS => exact (below_size (by repeat (first | (with_reducible first | exact HB.out | apply below_alloc | apply pw_below_drewN | apply below_drew1) | exact HB.out)))); (case aL => have := LMc20.out; omega); intro v336 w22 ho hb hg hat; rw [← Ny335.out] at ho; have n0_ := Aside0.mk (hb); have n1_ := Aside0.mk (ho); clear HB; clear HO_7; have HB := n0_; have HO337 := n1_; clear n0_ n1_; clear ho hb hg hat))
        go_ret
        exact ⟨_, by first | rfl | (simp [errW_none, errW_some] <;> rfl) | (simp [*, errW_none, errW_some] <;> rfl), by (with_reducible repeat (first | apply Kd.R_alloc | apply Kd.R_drewN | apply Kd.R_drew)); exact HO337.out, by repeat (first | (with_reducible first | exact HB.out | apply below_alloc | apply pw_below_drewN | apply below_drew1) | exact HB.out)⟩
       ·
        rw [if_neg c20] at H
        exact absurd H (by simp)
      ·
       rw [if_neg c19] at H
       have c19b0 : ((x7_1.length : Int) == 0) = false := beq_eq_false_iff_ne.mpr c19
       have c19b1 : ((x7_1.length : Int) != 0) = true := bne_iff_ne.mpr c19
       have c19b2 : ¬ (x7_1 = []) := fun h_ => c19 (by rw [h_]; rfl)
       obtain rfl := Option.some.inj H
       obtain ⟨Ao23, co23, eo23⟩ := Kd.R_slice HO_7.out
       subst eo23
       go_wp2
       go_ret
       exact ⟨_, by first | rfl | (simp [errW_none, errW_some] <;> rfl) | (simp [*, errW_none, errW_some] <;> rfl), by (with_reducible repeat (first | apply Kd.R_alloc | apply Kd.R_drewN | apply Kd.R_drew)); exact HO_7.out, by repeat (first | (with_reducible first | exact HB.out | apply below_alloc | apply pw_below_drewN | apply below_drew1) | exact HB.out)⟩
end Go.Proofs.Ytcpojohpmcnnhaa.PA

set_option linter.unusedVariables false
set_option linter.unusedSimpArgs false
namespace Go.Proofs.Ytcpojohpmcnnhaa.K
theorem kraft_scale {m : Nat} {ps : WL} (h : ∀ p, p ∈ ps → p.2 ≤ m) : ∀ k, kraft (m + k) ps = 2 ^ k * kraft m ps
  | 0 => by simp
  | k + 1 => by
    rw [← Nat.add_assoc, kraft_succ (fun p hp => Nat.le_trans (h p hp) (Nat.le_add_right _ _)), kraft_scale h k, Nat.pow_succ, Nat.mul_comm (2 ^ k) 2, Nat.mul_assoc]
theorem opt_full {ws : List Int} {L : Nat} {ps : WL} (hp : ∀ x, x ∈ ws → 1 ≤ x) (h2 : 2 ≤ ws.length) (hf : IsFor ws ps) (hfit : FitsP L ps) (hopt : Opt ws L (costP ps)) : kraft L ps = 2 ^ L := by
  have hl := for_length hf
  obtain ⟨p, rest, hperm, hfp, hpl⟩ := split_max (ps := ps) (by intro e; rw [e] at hl; simp at hl; omega) hfit
  have hlen : rest.length + 1 = ps.length := by rw [← hperm.length_eq]; simp
  have h0 : 0 < p.2 := by
    rcases Nat.eq_zero_or_pos p.2 with h | h
    · exfalso
      have hk := hfp.kr
      have hle := hfp.le
      rw [h] at hk hle
      have : ∀ qs : WL, (∀ q, q ∈ qs → q.2 ≤ 0) → kraft 0 qs = qs.length := by
        intro qs
        induction qs with
        | nil => intro _; rfl
        | cons q qs ih =>
          intro hq
          rw [kraft_cons, ih (fun x hx => hq x (by simp [hx]))]
          simp
          omega
      rw [this _ hle, List.length_cons, Nat.pow_zero] at hk
      omega
    · exact h
  have hk : kraft p.2 (p :: rest) = 2 ^ p.2 := by
    rcases Nat.lt_or_ge (kraft p.2 (p :: rest)) (2 ^ p.2) with h | h
    · exfalso
      have h3 := shorten hfp h0 h
      have h4 : IsFor ws ((p.1, p.2 - 1) :: rest) := for_head (for_perm hperm.symm hf) _
      have h5 := hopt.least _ h4 (fits_up h3 hpl)
      rw [← costP_perm hperm, costP_cons, costP_cons] at h5
      have h6 : 1 ≤ p.1 := hp _ (hf.subset (List.mem_map.2 ⟨p, hperm.subset (by simp), rfl⟩))
      have h7 : p.1 * ((p.2 : Nat) : Int) = p.1 * (((p.2 - 1 : Nat)) : Int) + p.1 := by
        conv => lhs; rw [show p.2 = (p.2 - 1) + 1 by omega]
        push_cast
        rw [Int.mul_add, Int.mul_one]
      simp only at h5
      omega
    · exact Nat.le_antisymm hfp.kr h
  rw [← kraft_perm hperm]
  have := kraft_scale (m := p.2) (ps := p :: rest) hfp.le (L - p.2)
  rw [show p.2 + (L - p.2) = L by omega, hk, ← Nat.pow_add, show L - p.2 + p.2 = L by omega] at this
  exact this
theorem two_of {ws : List Int} {l : Nat → Nat} {i k : Nat} (hi : i < ws.length) (hk : k < ws.length) (hne : i ≠ k) : ∃ rest, (pairsOf ws l).Perm ((ws.getD i 0, l i) :: (ws.getD k 0, l k) :: rest) := by
  have h1 : (List.range ws.length).Perm (i :: (List.range ws.length).erase i) := List.perm_cons_erase (List.mem_range.2 hi)
  have h2 : k ∈ (List.range ws.length).erase i := (List.mem_erase_of_ne (Ne.symm hne)).2 (List.mem_range.2 hk)
  have h3 := List.perm_cons_erase h2
  have h4 := (h1.trans (h3.cons i)).map (fun s => (ws.getD s 0, l s))
  exact ⟨_, h4⟩
theorem opt_order {ws : List Int} {L : Nat} {l : Nat → Nat} (hfit : Fits ws.length L l) (hopt : Opt ws L (costN ws l)) {i k : Nat} (hi : i < ws.length) (hk : k < ws.length) (hw : ws.getD k 0 < ws.getD i 0) : l i ≤ l k := by
  rcases Nat.lt_or_ge (l k) (l i) with h | h
  · exfalso
    have hne : i ≠ k := by rintro rfl; omega
    obtain ⟨rest, hperm⟩ := two_of (ws := ws) (l := l) hi hk hne
    have hf : IsFor ws (pairsOf ws l) := by unfold IsFor; rw [pairs_for]
    have hf2 : IsFor ws ((ws.getD i 0, l k) :: (ws.getD k 0, l i) :: rest) := by
      have := for_perm hperm hf
      exact this
    have hfp := fits_perm hperm (pairs_fits.2 hfit)
    have hfp2 : FitsP L ((ws.getD i 0, l k) :: (ws.getD k 0, l i) :: rest) := by
      refine ⟨fun p hp => ?_, ?_⟩
      · rcases List.mem_cons.1 hp with rfl | hp
        · exact hfp.le (ws.getD k 0, l k) (by simp)
        · rcases List.mem_cons.1 hp with rfl | hp
          · exact hfp.le (ws.getD i 0, l i) (by simp)
          · exact hfp.le p (by simp [hp])
      · have := hfp.kr
        rw [kraft_cons, kraft_cons] at this ⊢
        simp only at this ⊢
        omega
    have h1 := hopt.least _ hf2 hfp2
    rw [← pairs_cost, costP_perm hperm, costP_cons, costP_cons, costP_cons, costP_cons] at h1
    simp only at h1
    obtain ⟨d, hd⟩ : ∃ d, l i = l k + d := ⟨l i - l k, by omega⟩
    have hd0 : 0 < d := by omega
    rw [hd] at h1
    push_cast at h1
    rw [Int.mul_add, Int.mul_add] at h1
    have h2 : ws.getD k 0 * (d : Int) < ws.getD i 0 * (d : Int) := Int.mul_lt_mul_of_pos_right hw (by omega)
    omega
  · exact h
theorem bring_min {D : Nat} {w0 x : Int} {r : WL} (hD : ∀ u, u ∈ r → u.2 ≤ D) (hw : ∀ u, u ∈ (x, D) :: r → w0 ≤ u.1) (hm : w0 ∈ ((x, D) :: r).map (·.1)) :
    ∃ r' : WL, (((w0, D) :: r').map (·.1)).Perm (((x, D) :: r).map (·.1)) ∧ (∀ L, kraft L r' = kraft L r) ∧ (∀ u, u ∈ r' → u.2 ≤ D) ∧ costP ((w0, D) :: r') ≤ costP ((x, D) :: r) := by
  by_cases h : x = w0
  · subst h; exact ⟨r, .refl _, fun _ => rfl, hD, Int.le_refl _⟩
  · obtain ⟨u, hu, hue⟩ := List.mem_map.1 hm
    have hu' : u ∈ r := by
      rcases List.mem_cons.1 hu with rfl | hu
      · exact absurd hue h
      · exact hu
    obtain ⟨A, B, rfl⟩ := List.append_of_mem hu'
    obtain ⟨y, d⟩ := u
    obtain rfl : y = w0 := hue
    have hd := hD (y, d) (by simp)
    have hx := hw (x, D) (by simp)
    simp only at hd hx
    have pk : ∀ (z : Int), (A ++ (z, d) :: B).Perm ((z, d) :: (A ++ B)) := fun z => List.perm_middle
    refine ⟨A ++ (x, d) :: B, ?_, fun L => ?_, fun u hu => ?_, ?_⟩
    · have e1 : (((y, D) :: (A ++ (x, d) :: B)).map (·.1)).Perm (((y, D) :: (x, d) :: (A ++ B)).map (·.1)) := ((pk x).cons _).map _
      have e2 : (((x, D) :: (A ++ (y, d) :: B)).map (·.1)).Perm (((x, D) :: (y, d) :: (A ++ B)).map (·.1)) := ((pk y).cons _).map _
      refine e1.trans (List.Perm.trans ?_ e2.symm)
      exact List.Perm.swap _ _ _
    · rw [kraft_perm (pk x), kraft_perm (pk y), kraft_cons, kraft_cons]
    · rcases List.mem_append.1 hu with hu | hu
      · exact hD u (by simp [hu])
      · rcases List.mem_cons.1 hu with rfl | hu
        · exact hd
        · exact hD u (by simp [hu])
    · rw [costP_cons, costP_cons, costP_perm (pk x), costP_perm (pk y), costP_cons, costP_cons]
      simp only
      obtain ⟨k, hk⟩ : ∃ k, D = d + k := ⟨D - d, by omega⟩
      rw [hk]
      push_cast
      rw [Int.mul_add, Int.mul_add]
      have : y * (k : Int) ≤ x * (k : Int) := Int.mul_le_mul_of_nonneg_right hx (by omega)
      omega
theorem kraft_even {D : Nat} {r : WL} (h : ∀ u, u ∈ r → u.2 < D) : kraft D r % 2 = 0 := by
  induction r with
  | nil => rfl
  | cons u r ih =>
    have h1 := ih (fun v hv => h v (by simp [hv]))
    have h2 := h u (by simp)
    rw [kraft_cons, show D - u.2 = (D - u.2 - 1) + 1 by omega, Nat.pow_succ]
    omega
theorem two_max (ws : List Int) (hw : NN ws) (h2 : 2 ≤ ws.length) : ∀ (t L : Nat) (ps : WL), total ps = t → IsFor ws ps → FitsP L ps → ∃ D p q r, D ≤ L ∧ 1 ≤ D ∧ IsFor ws ((p, D) :: (q, D) :: r) ∧ FitsP D ((p, D) :: (q, D) :: r) ∧ costP ((p, D) :: (q, D) :: r) ≤ costP ps := by
  intro t
  induction t using Nat.strongRecOn with
  | _ t ih =>
    intro L ps ht hfor hfit
    have hl := for_length hfor
    obtain ⟨p, rest, hperm, hfp, hpl⟩ := split_max (ps := ps) (by intro e; rw [e] at hl; simp at hl; omega) hfit
    have hlen : rest.length + 1 = ps.length := by rw [← hperm.length_eq]; simp
    have hfor' := for_perm hperm.symm hfor
    by_cases hq : ∃ q, q ∈ rest ∧ q.2 = p.2
    · obtain ⟨q, hq, hqe⟩ := hq
      obtain ⟨A, B, rfl⟩ := List.append_of_mem hq
      obtain ⟨p1, D⟩ := p
      obtain ⟨q1, D'⟩ := q
      simp only at hqe hfp hpl
      subst hqe
      have hp2 : ((p1, D') :: (A ++ (q1, D') :: B)).Perm ((p1, D') :: (q1, D') :: (A ++ B)) := List.perm_middle.cons _
      refine ⟨D', p1, q1, A ++ B, hpl, ?_, for_perm hp2 hfor', fits_perm hp2 hfp, ?_⟩
      · rcases Nat.eq_zero_or_pos D' with h | h
        · exfalso
          have := hfp.kr
          rw [kraft_perm hp2, kraft_cons, kraft_cons, h] at this
          simp at this
          omega
        · exact h
      · rw [← costP_perm hp2, costP_perm hperm]; exact Int.le_refl _
    · have hlt : ∀ u, u ∈ rest → u.2 < p.2 := fun u hu => by
        have h1 := hfp.le u (by simp [hu])
        rcases Nat.lt_or_ge u.2 p.2 with h3 | h3
        · exact h3
        · exact absurd ⟨u, hu, by omega⟩ hq
      have h0 : 0 < p.2 := by
        cases rest with
        | nil => simp at hlen; omega
        | cons u rest => have := hlt u (by simp); omega
      have hlt2 : kraft p.2 (p :: rest) < 2 ^ p.2 := by
        have h1 := kraft_even hlt
        have h3 := hfp.kr
        rw [kraft_cons, Nat.sub_self] at h3 ⊢
        have h4 : 2 ^ p.2 % 2 = 0 := by rw [show p.2 = (p.2 - 1) + 1 by omega, Nat.pow_succ]; omega
        omega
      have h3 := shorten hfp h0 hlt2
      have h4 : IsFor ws ((p.1, p.2 - 1) :: rest) := for_head hfor' _
      have htot : total ((p.1, p.2 - 1) :: rest) < t := by
        rw [← ht, ← total_perm hperm]
        simp [total]
        omega
      obtain ⟨D, a, b, r, c1, c2, c3, c4, c5⟩ := ih _ htot p.2 _ rfl h4 h3
      refine ⟨D, a, b, r, by omega, c2, c3, c4, Int.le_trans c5 ?_⟩
      rw [← costP_perm hperm]
      exact short_cost (nn_of hw hfor (hperm.subset (by simp))) h0
theorem opt_merge {wa wb : Int} {rest : List Int} {M : Nat} {c m : Int} (ha : 0 ≤ wa) (hab : wa ≤ wb) (hb : ∀ x, x ∈ rest → wb ≤ x) (hM : rest.length + 1 ≤ M) (h : Opt (wa :: wb :: rest) M c) (k : Opt ((wa + wb) :: rest) M m) : c = m + (wa + wb) := by
  have hnn : NN (wa :: wb :: rest) := fun x hx => by
    rcases List.mem_cons.1 hx with rfl | hx
    · exact ha
    · rcases List.mem_cons.1 hx with rfl | hx
      · omega
      · have := hb x hx; omega
  have hnn2 : NN ((wa + wb) :: rest) := fun x hx => by
    rcases List.mem_cons.1 hx with rfl | hx
    · omega
    · have := hb x hx; omega
  have le1 : c ≤ m + (wa + wb) := by
    obtain ⟨ps, p1, p2, rfl⟩ := k.some
    have hpl := for_length p1
    obtain ⟨qs, q1, q2, q3⟩ := short_all _ hnn2 _ M ps rfl p1 p2 (by intro e; rw [e] at hpl; simp at hpl)
    have hql := for_length q1
    obtain ⟨q', r1, r2⟩ := reorder _ q1
    cases q' with
    | nil => simp at r2
    | cons z r =>
      obtain ⟨z1, x⟩ := z
      simp only [List.map_cons, List.cons.injEq] at r2
      obtain ⟨rfl, rfl⟩ := r2
      have f2 := fits_perm r1.symm q2
      simp only [List.length_cons] at hpl
      rw [hpl] at f2
      simp only [List.length_map] at f2 hM
      have f3 : FitsP (r.length + 1) ((wa + wb, x) :: r) := fits_up f2 (by omega)
      have hx : x ≤ r.length := f2.le (wa + wb, x) (by simp)
      have f4 : FitsP (r.length + 1) ((wa, x + 1) :: (wb, x + 1) :: r) := by
        refine ⟨fun p hp => ?_, ?_⟩
        · rcases List.mem_cons.1 hp with rfl | hp
          · show x + 1 ≤ _; omega
          · rcases List.mem_cons.1 hp with rfl | hp
            · show x + 1 ≤ _; omega
            · exact f3.le p (by simp [hp])
        · have := f3.kr
          rw [kraft_cons] at this
          rw [kraft_cons, kraft_cons]
          simp only at this ⊢
          rw [show r.length + 1 - x = (r.length + 1 - (x + 1)) + 1 by omega, Nat.pow_succ] at this
          omega
      have h5 := h.least _ (by unfold IsFor; exact List.Perm.refl _) (fits_up f4 hM)
      rw [costP_cons, costP_cons] at h5
      rw [← costP_perm r1, costP_cons] at q3
      simp only at h5 q3
      push_cast at h5
      rw [Int.mul_add, Int.mul_add, Int.mul_one, Int.mul_one] at h5
      rw [Int.add_mul] at q3
      omega
  have le2 : m + (wa + wb) ≤ c := by
    obtain ⟨ps, p1, p2, rfl⟩ := h.some
    obtain ⟨D, p, q, r, d1, d2, d3, d4, d5⟩ := two_max _ hnn (by simp) _ M ps rfl p1 p2
    have hmin : ∀ u, u ∈ (p, D) :: (q, D) :: r → wa ≤ u.1 := fun u hu => by
      have : u.1 ∈ wa :: wb :: rest := d3.subset (List.mem_map.2 ⟨u, hu, rfl⟩)
      rcases List.mem_cons.1 this with h1 | h1
      · omega
      · rcases List.mem_cons.1 h1 with h1 | h1
        · omega
        · have := hb _ h1; omega
    obtain ⟨r1, a1, a2, a3, a4⟩ := bring_min (D := D) (w0 := wa) (x := p) (r := (q, D) :: r) (fun u hu => d4.le u (by simp [List.mem_cons.1 hu])) hmin (d3.symm.subset (by simp))
    have hr1 : (r1.map (·.1)).Perm (wb :: rest) := (List.perm_cons wa).1 (a1.trans d3)
    have hk1 := a2 D
    rw [kraft_cons] at hk1
    have hl1 : r1 ≠ [] := by intro e; rw [e] at hr1; have := hr1.length_eq; simp at this
    have hdeep : ∃ u, u ∈ r1 ∧ u.2 = D := by
      by_cases hex : ∃ u, u ∈ r1 ∧ u.2 = D
      · exact hex
      · exfalso
        have hlt : ∀ u, u ∈ r1 → u.2 < D := fun u hu => by
          have h1 := a3 u hu
          rcases Nat.lt_or_ge u.2 D with h3 | h3
          · exact h3
          · exact absurd ⟨u, hu, by omega⟩ hex
        have h4 := kraft_even hlt
        rw [hk1] at h4
        have h5 := a2 (D - 1)
        rw [kraft_cons] at h5
        have h6 : kraft D r1 = 2 * kraft (D - 1) r1 := by
          have := kraft_succ (L := D - 1) (ps := r1) (fun u hu => by have := hlt u hu; omega)
          rwa [show D - 1 + 1 = D by omega] at this
        have h7 : ∀ (l : WL), (∀ u, u ∈ l → u.2 ≤ D) → kraft D l + (l.filter (fun u => u.2 == D)).length = 2 * kraft (D - 1) l := by
          intro l
          induction l with
          | nil => intro _; rfl
          | cons u l ihl =>
            intro hu
            have h8 := ihl (fun v hv => hu v (by simp [hv]))
            have h9 := hu u (by simp)
            rw [kraft_cons, kraft_cons]
            by_cases he : u.2 = D
            · have : (u.2 == D) = true := by simp [he]
              simp only [List.filter_cons, this, if_true, List.length_cons]
              rw [he, Nat.sub_self, show D - 1 - D = 0 by omega]
              omega
            · have : (u.2 == D) = false := by simp [he]
              simp only [List.filter_cons, this, Bool.false_eq_true, if_false]
              rw [show D - u.2 = (D - 1 - u.2) + 1 by omega, Nat.pow_succ]
              omega
        have h10 := h7 ((q, D) :: r) (fun u hu => d4.le u (by simp [List.mem_cons.1 hu]))
        rw [kraft_cons, kraft_cons] at h10
        have : ((D == D) : Bool) = true := by simp
        simp only [List.filter_cons, this, if_true, List.length_cons] at h10
        simp only at hk1 h5
        omega
    obtain ⟨u, hu, hud⟩ := hdeep
    obtain ⟨A, B, rfl⟩ := List.append_of_mem hu
    obtain ⟨y, d⟩ := u
    simp only at hud
    subst hud
    have pm : (A ++ (y, d) :: B).Perm ((y, d) :: (A ++ B)) := List.perm_middle
    have hr2 : (((y, d) :: (A ++ B)).map (·.1)).Perm (wb :: rest) := (pm.symm.map _).trans hr1
    have hmin2 : ∀ v, v ∈ (y, d) :: (A ++ B) → wb ≤ v.1 := fun v hv => by
      have : v.1 ∈ wb :: rest := hr2.subset (List.mem_map.2 ⟨v, hv, rfl⟩)
      rcases List.mem_cons.1 this with h1 | h1
      · omega
      · exact hb _ h1
    obtain ⟨r2, b1, b2, b3, b4⟩ := bring_min (D := d) (w0 := wb) (x := y) (r := A ++ B) (fun v hv => a3 v (pm.symm.subset (by simp [hv]))) hmin2 (hr2.symm.subset (by simp))
    have hr3 : (r2.map (·.1)).Perm rest := (List.perm_cons wb).1 (b1.trans hr2)
    have hk3 := d4.kr
    rw [kraft_cons, kraft_cons] at hk3
    simp only at hk3 hk1
    rw [kraft_perm pm, kraft_cons, ← b2 d] at hk1
    simp only at hk1
    rw [Nat.sub_self] at hk1 hk3
    have f5 : FitsP d ((wa + wb, d - 1) :: r2) := by
      refine ⟨fun p hp => ?_, ?_⟩
      · rcases List.mem_cons.1 hp with rfl | hp
        · show d - 1 ≤ d; omega
        · exact b3 p hp
      · rw [kraft_cons]
        simp only
        rw [show d - (d - 1) = 1 by omega]
        omega
    have h6 := k.least ((wa + wb, d - 1) :: r2) (by unfold IsFor; exact hr3.cons _) (fits_up f5 d1)
    rw [costP_cons] at h6 b4 a4
    rw [costP_perm pm] at a4
    rw [costP_cons] at d5
    rw [costP_cons] at b4
    simp only at h6 a4 b4 d5
    have e1 : (wa + wb) * ((d - 1 : Nat) : Int) = (wa + wb) * (d : Int) - (wa + wb) := by
      rw [show ((d - 1 : Nat) : Int) = (d : Int) - 1 by omega, Int.mul_sub, Int.mul_one]
    rw [e1, Int.add_mul] at h6
    have e2 : costP ((p, d) :: (q, d) :: r) = p * (d : Int) + costP ((q, d) :: r) := costP_cons _ _
    have e3 : costP ((y, d) :: (A ++ B)) = y * (d : Int) + costP (A ++ B) := costP_cons _ _
    rw [e3] at a4
    rw [e2] at a4
    omega
  omega
end Go.Proofs.Ytcpojohpmcnnhaa.K

set_option linter.unusedVariables false
set_option linter.unusedSimpArgs false
namespace Go.Proofs.Ytcpojohpmcnnhaa.L
open Go.RowKit Go.Proofs.YtcpojohpmcnnhaaW.PrintWords Go.Proofs.YtcpojohpmcnnhaaW.PrintLast Go.Proofs.YtcpojohpmcnnhaaW.PrintMore
open Go.Proofs.Ytcpojohpmcnnhaa.PA Go.Proofs.Ytcpojohpmcnnhaa.A Go.Proofs.Ytcpojohpmcnnhaa.K
def modI (x n : Int) : Int := Int.tmod (IntKind.u64.wrap x) n
theorem u64_nn (x : Int) : 0 ≤ IntKind.u64.wrap x := by
  have e : IntKind.u64.wrap x = x % 18446744073709551616 := by simp [IntKind.wrap, IntKind.bits, IntKind.signed]
  rw [e]; omega
theorem u64_small {x : Int} (h : 0 ≤ x) (h2 : x ≤ 1000000000000) : IntKind.u64.wrap x = x := by
  have e : IntKind.u64.wrap x = x % 18446744073709551616 := by simp [IntKind.wrap, IntKind.bits, IntKind.signed]
  rw [e]; omega
theorem modI_bd (x : Int) {n : Int} (h : 1 ≤ n) : 0 ≤ modI x n ∧ modI x n < n := by
  unfold modI
  have h0 := u64_nn x
  rw [Int.tmod_eq_emod_of_nonneg h0]
  exact ⟨Int.emod_nonneg _ (by omega), Int.emod_lt_of_pos _ (by omega)⟩
theorem mod_all (x : Int) {n : Int} (h : 1 ≤ n) (h2 : n ≤ 1000000000000) : turndownlaw06_mod.f x n = some (modI x n) := by
  unfold turndownlaw06_mod.f
  rw [u64_small (by omega) h2, if_neg (by omega)]
  have := modI_bd x h
  unfold modI at this ⊢
  congr 1
  unfold wrap64
  omega
theorem tame_ev (l : List Int) {most : Nat} {low : Int} (hl : l.length ≤ 17592186044416) (hm : 1 ≤ most) (hm2 : most ≤ 1000) (h0 : 0 ≤ low) (h1 : low ≤ 1) : ∃ w, Ev (fun k => turndownlaw06_tame.f k l (most : Int) low) w ∧ 1 ≤ w.length ∧ w.length ≤ most ∧ ∀ x, x ∈ w → low ≤ x ∧ x ≤ 1073741824 := by
  have fin : ∀ (out : List Int) (q : Nat), out.length ≤ most → (∀ x, x ∈ out → low ≤ x ∧ x ≤ 1073741824) → ∃ w, Ev (fun k => turndownlaw06_tame.j1 k l (most : Int) low out (q : Int) false) w ∧ 1 ≤ w.length ∧ w.length ≤ most ∧ ∀ x, x ∈ w → low ≤ x ∧ x ≤ 1073741824 := by
    intro out q ho hx
    by_cases h : (out.length : Int) = 0
    · refine ⟨out ++ [1], Ev.step (fun k => ?_) (Ev.now _), by simp, by simp; omega, fun x hx' => ?_⟩
      · rw [turndownlaw06_tame.j1, if_neg (by simp), if_pos h, if_pos (by omega)]
      · rcases List.mem_append.1 hx' with hx' | hx'
        · exact hx x hx'
        · rw [List.mem_singleton.1 hx']; omega
    · refine ⟨out, Ev.step (fun k => ?_) (Ev.now _), by omega, ho, hx⟩
      rw [turndownlaw06_tame.j1, if_neg (by simp), if_neg h]
  have key : ∀ e q (out : List Int), q + e = min l.length most → out.length = q → (∀ x, x ∈ out → low ≤ x ∧ x ≤ 1073741824) → ∃ w, Ev (fun k => turndownlaw06_tame.l0 k l (most : Int) low out (q : Int)) w ∧ 1 ≤ w.length ∧ w.length ≤ most ∧ ∀ x, x ∈ w → low ≤ x ∧ x ≤ 1073741824 := by
    intro e
    induction e with
    | zero =>
      intro q out hq ho hx
      obtain ⟨w, hw, h3⟩ := fin out q (by omega) hx
      refine ⟨w, Ev.step (fun k => ?_) hw, h3⟩
      rw [turndownlaw06_tame.l0]
      by_cases h : (q : Int) < (l.length : Int)
      · rw [if_pos h, decide_eq_false (show ¬ (q : Int) < (most : Int) by omega)]
      · rw [if_neg h]
    | succ e ih =>
      intro q out hq ho hx
      have hql : q < l.length := by omega
      have hqm : q < most := by omega
      obtain ⟨y, hy, hstep⟩ : ∃ y, (low ≤ y ∧ y ≤ 1073741824) ∧ ∀ k, turndownlaw06_tame.j1 (k + 1) l (most : Int) low out (q : Int) true = turndownlaw06_tame.l0 k l (most : Int) low (out ++ [y]) ((q + 1 : Nat) : Int) := by
        have hm3 := modI_bd (l.getD q 0) (n := 1000) (by omega)
        have hm4 : wrap64 (low + modI (l.getD q 0) 1000) = low + modI (l.getD q 0) 1000 := by unfold wrap64; omega
        by_cases c1 : l.getD q 0 < low
        · refine ⟨low + modI (l.getD q 0) 1000, by omega, fun k => ?_⟩
          rw [turndownlaw06_tame.j1, if_pos rfl, if_pos (by omega), if_pos (by omega), rd_nat, if_pos c1, mod_all _ (by omega) (by omega)]
          simp only [Option.bind_some]
          rw [if_pos (by omega), hm4, w1 (by omega)]
        · by_cases c2 : l.getD q 0 > 1073741824
          · refine ⟨low + modI (l.getD q 0) 1000, by omega, fun k => ?_⟩
            rw [turndownlaw06_tame.j1, if_pos rfl, if_pos (by omega), if_pos (by omega), rd_nat, if_neg c1, if_pos c2, mod_all _ (by omega) (by omega)]
            simp only [Option.bind_some]
            rw [if_pos (by omega), hm4, w1 (by omega)]
          · refine ⟨l.getD q 0, by omega, fun k => ?_⟩
            rw [turndownlaw06_tame.j1, if_pos rfl, if_pos (by omega), if_pos (by omega), rd_nat, if_neg c1, if_neg c2, if_pos (by omega), w1 (by omega)]
      obtain ⟨w, hw, h3⟩ := ih (q + 1) (out ++ [y]) (by omega) (by simp [ho]) (fun x hx' => by
        rcases List.mem_append.1 hx' with hx' | hx'
        · exact hx x hx'
        · rw [List.mem_singleton.1 hx']; exact hy)
      refine ⟨w, Ev.step (fun k => ?_) (Ev.step (g := fun k => turndownlaw06_tame.j1 k l (most : Int) low out (q : Int) true) hstep hw), h3⟩
      rw [turndownlaw06_tame.l0, if_pos (by omega), decide_eq_true (show (q : Int) < (most : Int) by omega)]
  exact key (min l.length most) 0 [] (by omega) rfl (fun x hx => by cases hx)
theorem getD_mem {l : List Int} {s : Nat} (hs : s < l.length) : l.getD s 0 ∈ l := by
  rw [List.getD_eq_getElem?_getD, List.getElem?_eq_getElem hs]
  exact List.getElem_mem hs
end Go.Proofs.Ytcpojohpmcnnhaa.L

namespace Go.Proofs.Ytcpojohpmcnnhaa.PA
open Go.RowKit Go.Proofs.YtcpojohpmcnnhaaW.PrintWords Go.Proofs.YtcpojohpmcnnhaaW.PrintLast Go.Proofs.YtcpojohpmcnnhaaW.PrintMore
attribute [local go_sem] max2_int min2_int max_two min_two max_three min_three max_four min_four
set_option linter.unusedVariables false
set_option linter.unusedSimpArgs false
mutual
def turndownlaw06_CodeMerges.l0 : Nat → List Int → Int → Int → Int → Option (Bool)
 | 0, _, _, _, _ => none
 | k + 1, x3, x4, x5, x6 => if x6 < (x3.length : Int) then (if 0 ≤ x6 then ((turndownlaw06_mod.f (rd x3 x6) 1000001).bind fun t402 => (turndownlaw06_CodeMerges.l0 k (x3.set (x6 : Int).toNat t402) x4 x5 (wrap64 (x6 + 1)))) else (none)) else (if 0 ≤ x5 then (if x5 < (x3.length : Int) then (if 0 ≤ x4 then (if x4 < (x3.length : Int) then (if (rd x3 x5) < (rd x3 x4) then (turndownlaw06_CodeMerges.j1 k x3 1 0) else (turndownlaw06_CodeMerges.j1 k x3 x4 x5)) else (none)) else (none)) else (none)) else (none))
def turndownlaw06_CodeMerges.j1 : Nat → List Int → Int → Int → Option (Bool)
 | 0, _, _, _ => none
 | k + 1, x3, x4, x5 => turndownlaw06_CodeMerges.l1 k x3 x4 x5 2
def turndownlaw06_CodeMerges.l1 : Nat → List Int → Int → Int → Int → Option (Bool)
 | 0, _, _, _, _ => none
 | k + 1, x3, x4, x5, x7 => if x7 < (x3.length : Int) then (if 0 ≤ x7 then (if 0 ≤ x4 then (if x4 < (x3.length : Int) then (if (rd x3 x7) < (rd x3 x4) then (turndownlaw06_CodeMerges.l1 k x3 x7 x4 (wrap64 (x7 + 1))) else (if 0 ≤ x5 then (if x5 < (x3.length : Int) then (if (rd x3 x7) < (rd x3 x5) then (turndownlaw06_CodeMerges.l1 k x3 x4 x7 (wrap64 (x7 + 1))) else (turndownlaw06_CodeMerges.l1 k x3 x4 x5 (wrap64 (x7 + 1)))) else (none)) else (none))) else (none)) else (none)) else (none)) else (turndownlaw06_CodeMerges.l2 k x3 x4 x5 ([] : List Int) 0)
def turndownlaw06_CodeMerges.l2 : Nat → List Int → Int → Int → List Int → Int → Option (Bool)
 | 0, _, _, _, _, _ => none
 | k + 1, x3, x4, x5, x8, x9 => if x9 < (x3.length : Int) then (if x9 = x4 then (turndownlaw06_CodeMerges.l2 k x3 x4 x5 x8 (wrap64 (x9 + 1))) else (if x9 = x5 then (turndownlaw06_CodeMerges.l2 k x3 x4 x5 x8 (wrap64 (x9 + 1))) else (if 0 ≤ x9 then (if x8.length < 17592186044416 then (turndownlaw06_CodeMerges.l2 k x3 x4 x5 (x8 ++ [rd x3 x9]) (wrap64 (x9 + 1))) else (none)) else (none)))) else (if 0 ≤ x4 then (if x4 < (x3.length : Int) then (if 0 ≤ x5 then (if x5 < (x3.length : Int) then (if x8.length < 17592186044416 then ((code_Best.f k x3 32).bind fun bt419 => ((code_Best.f k (x8 ++ [wrap64 ((rd x3 x4) + (rd x3 x5))]) 32).bind fun bt424 => (if bt419.2.2 = 0 then (if bt424.2.2 = 0 then (if bt419.2.1 = (wrap64 (bt424.2.1 + (wrap64 ((rd x3 x4) + (rd x3 x5))))) then ((turndownlaw06_awake.f k).bind fun t429 => (some t429)) else (some false)) else (some false)) else (some false)))) else (none)) else (none)) else (none)) else (none)) else (none))
end
def turndownlaw06_CodeMerges.f (k : Nat) (l0 : List Int) : Option (Bool) := (turndownlaw06_tame.f k l0 30 0).bind fun t397 => (if (t397.length : Int) < 2 then ((turndownlaw06_awake.f k).bind fun t400 => (some t400)) else (turndownlaw06_CodeMerges.l0 k t397 0 1 0))
set_option maxHeartbeats 8000000 in
set_option maxRecDepth 100000 in
theorem turndownlaw06_CodeMerges.calls (k : Nat) (A0 : Option Addr) (c0 : Nat) (l0 : List Int) (r : Bool) (w : World) (hr0 : Kd.C (Kd.int .i64) w A0 l0.length l0) (hc0 : l0.length ≤ c0) (h : turndownlaw06_CodeMerges.f k l0 = some r) :
  Calls Try.prog 10 #[.slice A0 l0.length c0] w fun e w' => e = .returned (.bool r) ∧ Below w.heap.size w w' := by
 have HR0 := Aside0.mk hr0
 have HC0 := Aside0.mk hc0
 clear hr0 hc0
 have HB := Aside0.mk (Below.refl w.heap.size w)
 have H : ((turndownlaw06_tame.f k l0 30 0).bind fun t397 => (if (t397.length : Int) < 2 then ((turndownlaw06_awake.f k).bind fun t400 => (some t400)) else (turndownlaw06_CodeMerges.l0 k t397 0 1 0))) = some r := h
 clear h
 replace H := Option.bind_eq_some_iff.mp H
 obtain ⟨t397, A20, H⟩ := H
 replace H : (if (t397.length : Int) < 2 then ((turndownlaw06_awake.f k).bind fun t400 => (some t400)) else (turndownlaw06_CodeMerges.l0 k t397 0 1 0)) = some r := H
 have A2 := Aside0.mk A20
 clear A20
 by_cases c3 : (t397.length : Int) < 2
 ·
  rw [if_pos c3] at H
  have c3b0 : decide ((t397.length : Int) < 2) = true := decide_eq_true c3
  have c3b1 : decide (t397.length < 2) = true := decide_eq_true (by omega)
  clear c3
  replace H := Option.bind_eq_some_iff.mp H
  obtain ⟨t400, A40, H⟩ := H
  replace H : (some t400) = some r := H
  have A4 := Aside0.mk A40
  clear A40
  obtain rfl := Option.some.inj H
  go_enter Try.func10, Try.ntmps10
  go_wp2_with (first | (go_at_call 38; (with_reducible refine (turndownlaw06_tame.calls k _ _ l0 30 0 t397 _ ?side1 ?side2 A2.out).mono ?_); (case side1 => repeat (first | exact HR0.out | (with_reducible refine Kd.C_alloc ?_ _) | (with_reducible refine Kd.C_drewN ?_ _) | (with_reducible refine Kd.C_drew ?_))); (case side2 => exact HC0.out); rintro e w5 ⟨v398, rfl, ho0, hb⟩; have n0_ := Aside0.mk (Kd.R_lower ho0 (below_size (by repeat (first | (with_reducible first | exact HB.out | apply below_alloc | apply pw_below_drewN | apply below_drew1) | exact HB.out)))); have n1_ := Aside0.mk (below_step (by repeat (first | (with_reducible first | exact HB.out | apply below_alloc | apply pw_below_drewN | apply below_drew1) | exact HB.out)) hb); clear HB; have HO399 := n0_; have HB := n1_; clear n0_ n1_; (try clear hb); (try clear hb2); (try clear hk); (try clear hi); (try clear ho0); obtain ⟨Ao6, co6, eo6⟩ := Kd.R_slice HO399.out; subst eo6) | (go_at_call 22; (with_reducible refine (turndownlaw06_awake.calls k  t400 _ A4.out).mono ?_); rintro e w7 ⟨rfl, hb⟩; have n0_ := Aside0.mk (Kd.R_below (by (with_reducible repeat (first | apply Kd.R_alloc | apply Kd.R_drewN | apply Kd.R_drew)); exact HO399.out) hb); have n1_ := Aside0.mk (below_step (by repeat (first | (with_reducible first | exact HB.out | apply below_alloc | apply pw_below_drewN | apply below_drew1) | exact HB.out)) hb); clear HO399; clear HB; have HO399 := n0_; have HB := n1_; clear n0_ n1_; (try clear hb); (try clear hb2); (try clear hk); (try clear hi)))
  repeat (go_quiet (first | (go_at_call 38; (with_reducible refine (turndownlaw06_tame.calls k _ _ l0 30 0 t397 _ ?side1 ?side2 A2.out).mono ?_); (case side1 => repeat (first | exact HR0.out | (with_reducible refine Kd.C_alloc ?_ _) | (with_reducible refine Kd.C_drewN ?_ _) | (with_reducible refine Kd.C_drew ?_))); (case side2 => exact HC0.out); rintro e w5 ⟨v398, rfl, ho0, hb⟩; have n0_ := Aside0.mk (Kd.R_lower ho0 (below_size (by repeat (first | (with_reducible first | exact HB.out | apply below_alloc | apply pw_below_drewN | apply below_drew1) | exact HB.out)))); have n1_ := Aside0.mk (below_step (by repeat (first | (with_reducible first | exact HB.out | apply below_alloc | apply pw_below_drewN | apply below_drew1) | exact HB.out)) hb); clear HB; have HO399 := n0_; have HB := n1_; clear n0_ n1_; (try clear hb); (try clear hb2); (try clear hk); (try clear hi); (try clear ho0); obtain ⟨Ao6, co6, eo6⟩ := Kd.R_slice HO399.out; subst eo6) | (go_at_call 22; (with_reducible refine (turndownlaw06_awake.calls k  t400 _ A4.out).mono ?_); rintro e w7 ⟨rfl, hb⟩; have n0_ := Aside0.mk (Kd.R_below (by (with_reducible repeat (first | apply Kd.R_alloc | apply Kd.R_drewN | apply Kd.R_drew)); exact HO399.out) hb); have n1_ := Aside0.mk (below_step (by repeat (first | (with_reducible first | exact HB.out | apply below_alloc | apply pw_below_drewN | apply below_drew1) | exact HB.out)) hb); clear HO399; clear HB; have HO399 := n0_; have HB := n1_; clear n0_ n1_; (try clear hb); (try clear hb2); (try clear hk); (try clear hi))); try go_wp2_with (first | (go_at_call 38; (with_reducible refine (turndownlaw06_tame.calls k _ _ l0 30 0 t397 _ ?side1 ?side2 A2.out).mono ?_); (case side1 => repeat (first | exact HR0.out | (with_reducible refine Kd.C_alloc ?_ _) | (with_reducible refine Kd.C_drewN ?_ _) | (with_reducible refine Kd.C_drew ?_))); (case side2 => exact HC0.out); rintro e w5 ⟨v398, rfl, ho0, hb⟩; have n0_ := Aside0.mk (Kd.R_lower ho0 (below_size (by repeat (first | (with_reducible first | exact HB.out | apply below_alloc | apply pw_below_drewN | apply below_drew1) | exact HB.out)))); have n1_ := Aside0.mk (below_step (by repeat (first | (with_reducible first | exact HB.out | apply below_alloc | apply pw_below_drewN | apply below_drew1) | exact HB.out)) hb); clear HB; have HO399 := n0_; have HB := n1_; clear n0_ n1_; (try clear hb); (try clear hb2); (try clear hk); (try clear hi); (try clear ho0); obtain ⟨Ao6, co6, eo6⟩ := Kd.R_slice HO399.out; subst eo6) | (go_at_call 22; (with_reducible refine (turndownlaw06_awake.calls k  t400 _ A4.out).mono ?_); rintro e w7 ⟨rfl, hb⟩; have n0_ := Aside0.mk (Kd.R_below (by (with_reducible repeat (first | apply Kd.R_alloc | apply Kd.R_drewN | apply Kd.R_drew)); exact HO399.out) hb); have n1_ := Aside0.mk (below_step (by repeat (first | (with_reducible first | exact HB.out | apply below_alloc | apply pw_below_drewN | apply below_drew1) | exact HB.out)) hb); clear HO399; clear HB; have HO399 := n0_; have HB := n1_; clear n0_ n1_; (try clear hb); (try clear hb2); (try clear hk); (try clear hi))))
  go_ret
  exact ⟨by first | rfl | (simp [errW_none, errW_some] <;> rfl) | (simp [*, errW_none, errW_some] <;> rfl), by repeat (first | (with_reducible first | exact HB.out | apply below_alloc | apply pw_below_drewN | apply below_drew1) | exact HB.out)⟩
 ·
  rw [if_neg c3] at H
  have c3b0 : decide ((t397.length : Int) < 2) = false := decide_eq_false c3
  have c3b1 : decide (t397.length < 2) = false := decide_eq_false (by omega)
  clear c3
  have H' := Aside0.mk H
  clear H
  go_enter Try.func10, Try.ntmps10
  go_wp2_with (first | (go_at_call 38; (with_reducible refine (turndownlaw06_tame.calls k _ _ l0 30 0 t397 _ ?side1 ?side2 A2.out).mono ?_); (case side1 => repeat (first | exact HR0.out | (with_reducible refine Kd.C_alloc ?_ _) | (with_reducible refine Kd.C_drewN ?_ _) | (with_reducible refine Kd.C_drew ?_))); (case side2 => exact HC0.out); rintro e w8 ⟨v398, rfl, ho0, hb⟩; have n0_ := Aside0.mk (Kd.R_lower ho0 (below_size (by repeat (first | (with_reducible first | exact HB.out | apply below_alloc | apply pw_below_drewN | apply below_drew1) | exact HB.out)))); have n1_ := Aside0.mk (below_step (by repeat (first | (with_reducible first | exact HB.out | apply below_alloc | apply pw_below_drewN | apply below_drew1) | exact HB.out)) hb); clear HB; have HO399 := n0_; have HB := n1_; clear n0_ n1_; (try clear hb); (try clear hb2); (try clear hk); (try clear hi); (try clear ho0); obtain ⟨Ao9, co9, eo9⟩ := Kd.R_slice HO399.out; subst eo9))
  repeat (go_quiet (first | (go_at_call 38; (with_reducible refine (turndownlaw06_tame.calls k _ _ l0 30 0 t397 _ ?side1 ?side2 A2.out).mono ?_); (case side1 => repeat (first | exact HR0.out | (with_reducible refine Kd.C_alloc ?_ _) | (with_reducible refine Kd.C_drewN ?_ _) | (with_reducible refine Kd.C_drew ?_))); (case side2 => exact HC0.out); rintro e w8 ⟨v398, rfl, ho0, hb⟩; have n0_ := Aside0.mk (Kd.R_lower ho0 (below_size (by repeat (first | (with_reducible first | exact HB.out | apply below_alloc | apply pw_below_drewN | apply below_drew1) | exact HB.out)))); have n1_ := Aside0.mk (below_step (by repeat (first | (with_reducible first | exact HB.out | apply below_alloc | apply pw_below_drewN | apply below_drew1) | exact HB.out)) hb); clear HB; have HO399 := n0_; have HB := n1_; clear n0_ n1_; (try clear hb); (try clear hb2); (try clear hk); (try clear hi); (try clear ho0); obtain ⟨Ao9, co9, eo9⟩ := Kd.R_slice HO399.out; subst eo9)); try go_wp2_with (first | (go_at_call 38; (with_reducible refine (turndownlaw06_tame.calls k _ _ l0 30 0 t397 _ ?side1 ?side2 A2.out).mono ?_); (case side1 => repeat (first | exact HR0.out | (with_reducible refine Kd.C_alloc ?_ _) | (with_reducible refine Kd.C_drewN ?_ _) | (with_reducible refine Kd.C_drew ?_))); (case side2 => exact HC0.out); rintro e w8 ⟨v398, rfl, ho0, hb⟩; have n0_ := Aside0.mk (Kd.R_lower ho0 (below_size (by repeat (first | (with_reducible first | exact HB.out | apply below_alloc | apply pw_below_drewN | apply below_drew1) | exact HB.out)))); have n1_ := Aside0.mk (below_step (by repeat (first | (with_reducible first | exact HB.out | apply below_alloc | apply pw_below_drewN | apply below_drew1) | exact HB.out)) hb); clear HB; have HO399 := n0_; have HB := n1_; clear n0_ n1_; (try clear hb); (try clear hb2); (try clear hk); (try clear hi); (try clear ho0); obtain ⟨Ao9, co9, eo9⟩ := Kd.R_slice HO399.out; subst eo9)))
  go_loopg [6] k (fun kq v6 w' => ∃ (x3_1 : List Int) (x6_1 : Int), v6 = .int .i64 x6_1 ∧ Aside0 (turndownlaw06_CodeMerges.l0 kq x3_1 0 1 x6_1 = some r) ∧ Aside0 (kq ≤ k) ∧ Aside0 (Kd.R (Kd.int .i64) 3 w' w.heap.size (fun _ => True) (.slice Ao9 t397.length co9) x3_1) ∧ Aside0 (Below w.heap.size w w'))
  case atStart => exact ⟨(t397), (0), (by first | rfl | (simp; done) | (simp [*]; done)), H', ⟨Nat.le_refl _⟩, ⟨by (with_reducible repeat (first | apply Kd.R_alloc | apply Kd.R_drewN | apply Kd.R_drew)); exact HO399.out⟩, ⟨by repeat (first | (with_reducible first | exact HB.out | apply below_alloc | apply pw_below_drewN | apply below_drew1) | exact HB.out)⟩⟩
  case round =>
   clear H'
   try clear c1
   try clear p2
   try clear c3
   try clear c3b0
   try clear c3b1
   obtain ⟨x3_1, x6_1, rfl, HA, HK1, HO_3, HB⟩ := hrel
   have hl3_1 := (Kd.R_reads' HO_3.out).1
   rw [hl3_1] at HO_3
   (try simp only [hl3_1])
   cases gk with
   | zero => exact absurd HA.out (by simp [turndownlaw06_CodeMerges.l0])
   | succ k1 =>
    have H := HA.out
    clear HA
    simp only [turndownlaw06_CodeMerges.l0] at H
    by_cases c10 : x6_1 < (x3_1.length : Int)
    ·
     rw [if_pos c10] at H
     have c10b0 : decide (x6_1 < (x3_1.length : Int)) = true := decide_eq_true c10
     clear c10
     by_cases c11 : 0 ≤ x6_1
     ·
      rw [if_pos c11] at H
      have c11b0 : decide (0 ≤ x6_1) = true := decide_eq_true c11
      clear c11
      replace H := Option.bind_eq_some_iff.mp H
      obtain ⟨t402, A120, H⟩ := H
      replace H : (turndownlaw06_CodeMerges.l0 k1 (x3_1.set (x6_1 : Int).toNat t402) 0 1 (wrap64 (x6_1 + 1))) = some r := H
      have A12 := Aside0.mk A120
      clear A120
      obtain ⟨y403, hy403⟩ : ∃ y_ : List Int, y_ = (x3_1.set (x6_1 : Int).toNat t402) := ⟨_, rfl⟩
      replace H : (turndownlaw06_CodeMerges.l0 k1 y403 0 1 (wrap64 (x6_1 + 1))) = some r := by first | (rw [hy403]; with_reducible exact H) | (have H2_ := (Option.bind_some _ _).symm.trans H; rw [hy403]; with_reducible exact H2_) | (have H2_ := (Option.bind_some _ _).symm.trans H; with_reducible exact H2_) | with_reducible exact H | (rw [hy403]; exact H) | exact H
      have Ny403 := Aside0.mk hy403
      clear hy403
      have H' := Aside0.mk H
      clear H
      have p401 : 0 ≤ (x6_1 : Int) := of_decide_eq_true (by first | (with_reducible assumption) | assumption)
      have q401 : x6_1 < (x3_1.length : Int) := of_decide_eq_true (by first | (with_reducible assumption) | assumption)
      obtain ⟨ad401, e401, hx401_0⟩ := Kd.at_int (Kd.R_reads' HO_3.out).2.2 x6_1 p401 q401
      cases e401
      replace p401 := eq_true p401
      replace q401 := eq_true q401
      go_wp2_with (first | (go_at_call 39; (with_reducible refine (turndownlaw06_mod.calls (rd x3_1 x6_1) 1000001 t402 _ A12.out).mono ?_); rintro e w' ⟨rfl, ⟨nd, rfl⟩⟩; (try first | exact ⟨rfl, _, World.drewN_drewN _ _ _⟩ | exact ⟨rfl, _, Eq.trans (World.drewN_drewN _ _ _) (congrArg (World.drewN _) (Nat.add_assoc _ _ _))⟩); have p13 : 0 ≤ (x6_1 : Int) := of_decide_eq_true (by first | (with_reducible assumption) | assumption); have q13 : (x6_1 : Int) < ((x3_1.length : Int) : Int) := of_decide_eq_true (by first | (with_reducible assumption) | assumption); obtain ⟨go13, co13, eo13, gb13, gl13, cl13, HG13⟩ := Kd.R_form HO_3.out (by omega); (first | cases eo13 | (injection eo13 with ea_ en_ ec_; (first | subst ea_ | (injection ea_ with ea_; subst ea_)); subst ec_; clear en_)); have GB13 := Aside0.mk gb13; have GG13 := Aside0.mk HG13; clear gb13 gl13 HG13; (first | simp only [add_plain] at hx401_0 | skip); obtain ⟨hx13_0, hf13_0⟩ := Kd.R_celln 0 HO_3.out (x6_1 : Int) p13 q13; replace p13 := eq_true p13; replace q13 := eq_true q13; obtain ⟨hy14_, hz14_⟩ := Kd.R_celln 0 HO_3.out (x6_1 : Int) (of_decide_eq_true (by first | (with_reducible assumption) | assumption)) (of_decide_eq_true (by first | (with_reducible assumption) | assumption)); have HP14 := Kd.R_putg HO_3.out (x6_1 : Int) t402) | ((with_reducible refine gate_store (t := 3) (p := 36) rfl ?_); (try (rw [drewN_self wr]; generalize hq_ : World.drewN wr _ = wr; have n0_ := Aside0.mk (Kd.R_at hq_ HO_3.out); have n1_ := Aside0.mk (below_at hq_ HB.out); clear hq_ HO_3 HB; have HO_3 := n0_; have HB := n1_; clear n0_ n1_; (try (obtain ⟨hy14_, hz14_⟩ := Kd.R_celln 0 HO_3.out (x6_1 : Int) (of_decide_eq_true (by first | (with_reducible assumption) | assumption)) (of_decide_eq_true (by first | (with_reducible assumption) | assumption)))); (try (have HP14 := Kd.R_putg HO_3.out (x6_1 : Int) t402)))); refine store_event (t := 3) (p := 36) (v := ?vo_w15) (w1 := (wr.setCell ⟨go13, (x6_1 : Int).toNat, none⟩ (.int .i64 t402))) ?hg ?ho ?hn ?hr ?_; (case ho => rfl); (case hg => rfl); (case hn => rfl); (case hr => first | (go_simp; done) | (go_simp; rfl)); intro w15 hw; have hg : wr.grownBy w15 (some go13) := (by rw [hw]; exact HP14.2); have hp_ : Kd.R (Kd.int .i64) 3 w15 w.heap.size (fun _ => True) (.slice (some ⟨go13, 0, none⟩) x3_1.length co9) y403 := (by rw [hw, Ny403.out]; exact HP14.1); clear HP14; have n0_ := Aside0.mk (hp_); have n1_ := Aside0.mk ((by rw [hw]; exact below_set (HB.out) GB13.out : Below w.heap.size w w15)); clear HO_3; clear HB; have HO_3 := n0_; have HB := n1_; clear n0_ n1_; clear hg hw hp_))
      repeat (go_quiet (first | (go_at_call 39; (with_reducible refine (turndownlaw06_mod.calls (rd x3_1 x6_1) 1000001 t402 _ A12.out).mono ?_); rintro e w' ⟨rfl, ⟨nd, rfl⟩⟩; (try first | exact ⟨rfl, _, World.drewN_drewN _ _ _⟩ | exact ⟨rfl, _, Eq.trans (World.drewN_drewN _ _ _) (congrArg (World.drewN _) (Nat.add_assoc _ _ _))⟩); have p13 : 0 ≤ (x6_1 : Int) := of_decide_eq_true (by first | (with_reducible assumption) | assumption); have q13 : (x6_1 : Int) < ((x3_1.length : Int) : Int) := of_decide_eq_true (by first | (with_reducible assumption) | assumption); obtain ⟨go13, co13, eo13, gb13, gl13, cl13, HG13⟩ := Kd.R_form HO_3.out (by omega); (first | cases eo13 | (injection eo13 with ea_ en_ ec_; (first | subst ea_ | (injection ea_ with ea_; subst ea_)); subst ec_; clear en_)); have GB13 := Aside0.mk gb13; have GG13 := Aside0.mk HG13; clear gb13 gl13 HG13; (first | simp only [add_plain] at hx401_0 | skip); obtain ⟨hx13_0, hf13_0⟩ := Kd.R_celln 0 HO_3.out (x6_1 : Int) p13 q13; replace p13 := eq_true p13; replace q13 := eq_true q13; obtain ⟨hy14_, hz14_⟩ := Kd.R_celln 0 HO_3.out (x6_1 : Int) (of_decide_eq_true (by first | (with_reducible assumption) | assumption)) (of_decide_eq_true (by first | (with_reducible assumption) | assumption)); have HP14 := Kd.R_putg HO_3.out (x6_1 : Int) t402) | ((with_reducible refine gate_store (t := 3) (p := 36) rfl ?_); (try (rw [drewN_self wr]; generalize hq_ : World.drewN wr _ = wr; have n0_ := Aside0.mk (Kd.R_at hq_ HO_3.out); have n1_ := Aside0.mk (below_at hq_ HB.out); clear hq_ HO_3 HB; have HO_3 := n0_; have HB := n1_; clear n0_ n1_; (try (obtain ⟨hy14_, hz14_⟩ := Kd.R_celln 0 HO_3.out (x6_1 : Int) (of_decide_eq_true (by first | (with_reducible assumption) | assumption)) (of_decide_eq_true (by first | (with_reducible assumption) | assumption)))); (try (have HP14 := Kd.R_putg HO_3.out (x6_1 : Int) t402)))); refine store_event (t := 3) (p := 36) (v := ?vo_w15) (w1 := (wr.setCell ⟨go13, (x6_1 : Int).toNat, none⟩ (.int .i64 t402))) ?hg ?ho ?hn ?hr ?_; (case ho => rfl); (case hg => rfl); (case hn => rfl); (case hr => first | (go_simp; done) | (go_simp; rfl)); intro w15 hw; have hg : wr.grownBy w15 (some go13) := (by rw [hw]; exact HP14.2); have hp_ : Kd.R (Kd.int .i64) 3 w15 w.heap.size (fun _ => True) (.slice (some ⟨go13, 0, none⟩) x3_1.length co9) y403 := (by rw [hw, Ny403.out]; exact HP14.1); clear HP14; have n0_ := Aside0.mk (hp_); have n1_ := Aside0.mk ((by rw [hw]; exact below_set (HB.out) GB13.out : Below w.heap.size w w15)); clear HO_3; clear HB; have HO_3 := n0_; have HB := n1_; clear n0_ n1_; clear hg hw hp_)); try go_wp2_with (first | (go_at_call 39; (with_reducible refine (turndownlaw06_mod.calls (rd x3_1 x6_1) 1000001 t402 _ A12.out).mono ?_); rintro e w' ⟨rfl, ⟨nd, rfl⟩⟩; (try first | exact ⟨rfl, _, World.drewN_drewN _ _ _⟩ | exact ⟨rfl, _, Eq.trans (World.drewN_drewN _ _ _) (congrArg (World.drewN _) (Nat.add_assoc _ _ _))⟩); have p13 : 0 ≤ (x6_1 : Int) := of_decide_eq_true (by first | (with_reducible assumption) | assumption); have q13 : (x6_1 : Int) < ((x3_1.length : Int) : Int) := of_decide_eq_true (by first | (with_reducible assumption) | assumption); obtain ⟨go13, co13, eo13, gb13, gl13, cl13, HG13⟩ := Kd.R_form HO_3.out (by omega); (first | cases eo13 | (injection eo13 with ea_ en_ ec_; (first | subst ea_ | (injection ea_ with ea_; subst ea_)); subst ec_; clear en_)); have GB13 := Aside0.mk gb13; have GG13 := Aside0.mk HG13; clear gb13 gl13 HG13; (first | simp only [add_plain] at hx401_0 | skip); obtain ⟨hx13_0, hf13_0⟩ := Kd.R_celln 0 HO_3.out (x6_1 : Int) p13 q13; replace p13 := eq_true p13; replace q13 := eq_true q13; obtain ⟨hy14_, hz14_⟩ := Kd.R_celln 0 HO_3.out (x6_1 : Int) (of_decide_eq_true (by first | (with_reducible assumption) | assumption)) (of_decide_eq_true (by first | (with_reducible assumption) | assumption)); have HP14 := Kd.R_putg HO_3.out (x6_1 : Int) t402) | ((with_reducible refine gate_store (t := 3) (p := 36) rfl ?_); (try (rw [drewN_self wr]; generalize hq_ : World.drewN wr _ = wr; have n0_ := Aside0.mk (Kd.R_at hq_ HO_3.out); have n1_ := Aside0.mk (below_at hq_ HB.out); clear hq_ HO_3 HB; have HO_3 := n0_; have HB := n1_; clear n0_ n1_; (try (obtain ⟨hy14_, hz14_⟩ := Kd.R_celln 0 HO_3.out (x6_1 : Int) (of_decide_eq_true (by first | (with_reducible assumption) | assumption)) (of_decide_eq_true (by first | (with_reducible assumption) | assumption)))); (try (have HP14 := Kd.R_putg HO_3.out (x6_1 : Int) t402)))); refine store_event (t := 3) (p := 36) (v := ?vo_w15) (w1 := (wr.setCell ⟨go13, (x6_1 : Int).toNat, none⟩ (.int .i64 t402))) ?hg ?ho ?hn ?hr ?_; (case ho => rfl); (case hg => rfl); (case hn => rfl); (case hr => first | (go_simp; done) | (go_simp; rfl)); intro w15 hw; have hg : wr.grownBy w15 (some go13) := (by rw [hw]; exact HP14.2); have hp_ : Kd.R (Kd.int .i64) 3 w15 w.heap.size (fun _ => True) (.slice (some ⟨go13, 0, none⟩) x3_1.length co9) y403 := (by rw [hw, Ny403.out]; exact HP14.1); clear HP14; have n0_ := Aside0.mk (hp_); have n1_ := Aside0.mk ((by rw [hw]; exact below_set (HB.out) GB13.out : Below w.heap.size w w15)); clear HO_3; clear HB; have HO_3 := n0_; have HB := n1_; clear n0_ n1_; clear hg hw hp_)))
      (try simp only [← hl3_1])
      go_roundg k1
      case measure => have := HK1.out; omega
      case rel => exact ⟨(y403), (wrap64 (x6_1 + 1)), (by first | rfl | (simp; done) | (simp [*]; done)), H', ⟨by have := HK1.out; omega⟩, ⟨by (try simp only [hl3_1]); (with_reducible repeat (first | apply Kd.R_alloc | apply Kd.R_drewN | apply Kd.R_drew)); exact HO_3.out⟩, ⟨by repeat (first | (with_reducible first | exact HB.out | apply below_alloc | apply pw_below_drewN | apply below_drew1) | exact HB.out)⟩⟩
     ·
      rw [if_neg c11] at H
      exact absurd H (by simp)
    ·
     rw [if_neg c10] at H
     have c10b0 : decide (x6_1 < (x3_1.length : Int)) = false := decide_eq_false c10
     clear c10
     by_cases c16 : (0 : Int) ≤ 1
     ·
      rw [if_pos c16] at H
      have c16b0 : decide ((0 : Int) ≤ 1) = true := decide_eq_true c16
      clear c16
      by_cases c17 : 1 < (x3_1.length : Int)
      ·
       rw [if_pos c17] at H
       have c17b0 : decide (1 < (x3_1.length : Int)) = true := decide_eq_true c17
       have c17b1 : decide (1 < x3_1.length) = true := decide_eq_true (by omega)
       clear c17
       by_cases c18 : (0 : Int) ≤ 0
       ·
        rw [if_pos c18] at H
        have c18b0 : decide ((0 : Int) ≤ 0) = true := decide_eq_true c18
        clear c18
        by_cases c19 : 0 < (x3_1.length : Int)
        ·
         rw [if_pos c19] at H
         have c19b0 : decide (0 < (x3_1.length : Int)) = true := decide_eq_true c19
         have c19b1 : decide (0 < x3_1.length) = true := decide_eq_true (by omega)
         clear c19
         have HC20 := Aside0.mk H
         clear H
         have p404 : 0 ≤ (1 : Int) := (by omega)
         have q404 : 1 < (x3_1.length : Int) := of_decide_eq_true (by first | (with_reducible assumption) | assumption)
         obtain ⟨ad404, e404, hx404_0⟩ := Kd.at_int (Kd.R_reads' HO_3.out).2.2 1 p404 q404
         cases e404
         (try simp only [show (1 : Int).toNat = 1 from rfl, Nat.reduceMul, Nat.reduceEqDiff, Go.Addr.add, ↓reduceIte] at hx404_0)
         have qi404 : (1 < x3_1.length) = True := eq_true (by omega)
         (try rw [show ((1 : Int)).toNat = 1 from rfl] at hx404_0)
         replace p404 := eq_true p404
         replace q404 := eq_true q404
         have p405 : 0 ≤ (0 : Int) := (by omega)
         have q405 : 0 < (x3_1.length : Int) := of_decide_eq_true (by first | (with_reducible assumption) | assumption)
         obtain ⟨ad405, e405, hx405_0⟩ := Kd.at_int (Kd.R_reads' HO_3.out).2.2 0 p405 q405
         obtain rfl : ad404 = ad405 := (by injection e405)
         have qi405 : (0 < x3_1.length) = True := eq_true (by omega)
         (try rw [show ((0 : Int)).toNat = 0 from rfl] at hx405_0)
         (try rw [Addr.add_zero'] at hx405_0)
         replace p405 := eq_true p405
         replace q405 := eq_true q405
         go_upto_if 45 with (fail)
         repeat (go_quiet (fail); go_upto_if 45 with (fail))
         go_cut [4, 5] (fun v4 v5 wc => ∃ (kq : Nat) (x4_19 : Int) (x5_19 : Int), v4 = .int .i64 x4_19 ∧ v5 = .int .i64 x5_19 ∧ Aside0 (turndownlaw06_CodeMerges.j1 kq x3_1 x4_19 x5_19 = some r) ∧ Aside0 (kq ≤ k1) ∧ Aside0 (Kd.R (Kd.int .i64) 3 wc w.heap.size (fun _ => True) (.slice (some ad404) x3_1.length co9) x3_1) ∧ Aside0 (Below w.heap.size w wc))
         case first =>
          have H := HC20.out
          clear HC20
          by_cases c21 : (rd x3_1 1) < (rd x3_1 0)
          ·
           rw [if_pos c21] at H
           have c21b0 : decide ((rd x3_1 1) < (rd x3_1 0)) = true := decide_eq_true c21
           clear c21
           (first | rw [c21b0] | (simp only [i64_w, i32_w]; rw [c21b0]) | skip)
           have H' := Aside0.mk H
           clear H
           go_wp2
           repeat (go_quiet (fail); try go_wp2)
           go_meet
           case rel => exact ⟨_, (1), (0), (by first | rfl | (simp; done) | (simp [*]; done)), (by first | rfl | (simp; done) | (simp [*]; done)), H', ⟨by have := HK1.out; first | omega | exact Nat.le_refl _⟩, ⟨by (try simp only [hl3_1]); (with_reducible repeat (first | apply Kd.R_alloc | apply Kd.R_drewN | apply Kd.R_drew)); exact HO_3.out⟩, ⟨by repeat (first | (with_reducible first | exact HB.out | apply below_alloc | apply pw_below_drewN | apply below_drew1) | exact HB.out)⟩⟩
          ·
           rw [if_neg c21] at H
           have c21b0 : decide ((rd x3_1 1) < (rd x3_1 0)) = false := decide_eq_false c21
           clear c21
           (first | rw [c21b0] | (simp only [i64_w, i32_w]; rw [c21b0]) | skip)
           have H' := Aside0.mk H
           clear H
           go_wp2
           repeat (go_quiet (fail); try go_wp2)
           go_meet
           case rel => exact ⟨_, (0), (1), (by first | rfl | (simp; done) | (simp [*]; done)), (by first | rfl | (simp; done) | (simp [*]; done)), H', ⟨by have := HK1.out; first | omega | exact Nat.le_refl _⟩, ⟨by (try simp only [hl3_1]); (with_reducible repeat (first | apply Kd.R_alloc | apply Kd.R_drewN | apply Kd.R_drew)); exact HO_3.out⟩, ⟨by repeat (first | (with_reducible first | exact HB.out | apply below_alloc | apply pw_below_drewN | apply below_drew1) | exact HB.out)⟩⟩
         case rest =>
          clear HC20
          try clear c1
          try clear p1
          try clear q1
          try clear hx1
          try clear hf1
          try clear c2
          try clear p2
          try clear c3
          try clear c3b0
          try clear c3b1
          try clear p4
          try clear q4
          try clear hx4
          try clear qi4
          try clear p6
          try clear c10
          try clear c10b0
          try clear c11
          try clear c11b0
          try clear p13
          try clear q13
          try clear hx13
          try clear hf13
          try clear c16
          try clear c16b0
          try clear c17
          try clear c17b0
          try clear c17b1
          try clear c18
          try clear c18b0
          try clear c19
          try clear c19b0
          try clear c19b1
          try clear c21
          try clear c21b0
          try clear hx13_0
          try clear hx401_0
          try clear hx404_0
          try clear hx405_0
          try clear p13
          try clear p2
          try clear p401
          try clear p404
          try clear p405
          try clear q13
          try clear q401
          try clear q404
          try clear q405
          obtain ⟨kq, x4_19, x5_19, rfl, rfl, HA, HJ19, HO_3, HB⟩ := hcut
          cases kq with
          | zero => exact absurd HA.out (by simp [turndownlaw06_CodeMerges.j1])
          | succ kj19 =>
           have H := HA.out
           clear HA
           simp only [turndownlaw06_CodeMerges.j1] at H
           have H' := Aside0.mk H
           clear H
           go_wp2
           repeat (go_quiet (fail); try go_wp2)
           go_loopg [4, 5, 7] kj19 (fun kq v4 v5 v7 w' => ∃ (x4_3 : Int) (x5_3 : Int) (x7_3 : Int), v4 = .int .i64 x4_3 ∧ v5 = .int .i64 x5_3 ∧ v7 = .int .i64 x7_3 ∧ Aside0 (turndownlaw06_CodeMerges.l1 kq x3_1 x4_3 x5_3 x7_3 = some r) ∧ Aside0 (kq ≤ kj19) ∧ Aside0 (Kd.R (Kd.int .i64) 3 w' w.heap.size (fun _ => True) (.slice (some ad404) x3_1.length co9) x3_1) ∧ Aside0 (Below w.heap.size w w'))
           case atStart => exact ⟨(x4_19), (x5_19), (2), (by first | rfl | (simp; done) | (simp [*]; done)), (by first | rfl | (simp; done) | (simp [*]; done)), (by first | rfl | (simp; done) | (simp [*]; done)), H', ⟨Nat.le_refl _⟩, ⟨by (try simp only [hl3_1]); (with_reducible repeat (first | apply Kd.R_alloc | apply Kd.R_drewN | apply Kd.R_drew)); exact HO_3.out⟩, ⟨by repeat (first | (with_reducible first | exact HB.out | apply below_alloc | apply pw_below_drewN | apply below_drew1) | exact HB.out)⟩⟩
           case round =>
            clear H'
            try clear c1
            try clear p1
            try clear q1
            try clear hx1
            try clear hf1
            try clear c2
            try clear p2
            try clear c3
            try clear c3b0
            try clear c3b1
            try clear p4
            try clear q4
            try clear hx4
            try clear qi4
            try clear p6
            try clear c10
            try clear c10b0
            try clear c11
            try clear c11b0
            try clear p13
            try clear q13
            try clear hx13
            try clear hf13
            try clear c16
            try clear c16b0
            try clear c17
            try clear c17b0
            try clear c17b1
            try clear c18
            try clear c18b0
            try clear c19
            try clear c19b0
            try clear c19b1
            try clear c21
            try clear c21b0
            try clear hx13_0
            try clear hx401_0
            try clear hx404_0
            try clear hx405_0
            try clear p1
            try clear p13
            try clear p2
            try clear p4
            try clear p401
            try clear p404
            try clear p405
            try clear p6
            try clear q1
            try clear q13
            try clear q4
            try clear q401
            try clear q404
            try clear q405
            obtain ⟨x4_3, x5_3, x7_3, rfl, rfl, rfl, HA, HK3, HO_3, HB⟩ := hrel
            cases gk with
            | zero => exact absurd HA.out (by simp [turndownlaw06_CodeMerges.l1])
            | succ k3 =>
             have H := HA.out
             clear HA
             simp only [turndownlaw06_CodeMerges.l1] at H
             by_cases c22 : x7_3 < (x3_1.length : Int)
             ·
              rw [if_pos c22] at H
              have c22b0 : decide (x7_3 < (x3_1.length : Int)) = true := decide_eq_true c22
              clear c22
              by_cases c23 : 0 ≤ x7_3
              ·
               rw [if_pos c23] at H
               have c23b0 : decide (0 ≤ x7_3) = true := decide_eq_true c23
               clear c23
               by_cases c24 : 0 ≤ x4_3
               ·
                rw [if_pos c24] at H
                have c24b0 : decide (0 ≤ x4_3) = true := decide_eq_true c24
                clear c24
                by_cases c25 : x4_3 < (x3_1.length : Int)
                ·
                 rw [if_pos c25] at H
                 have c25b0 : decide (x4_3 < (x3_1.length : Int)) = true := decide_eq_true c25
                 clear c25
                 by_cases c26 : (rd x3_1 x7_3) < (rd x3_1 x4_3)
                 ·
                  rw [if_pos c26] at H
                  have c26b0 : decide ((rd x3_1 x7_3) < (rd x3_1 x4_3)) = true := decide_eq_true c26
                  clear c26
                  have H' := Aside0.mk H
                  clear H
                  have p406 : 0 ≤ (x7_3 : Int) := of_decide_eq_true (by first | (with_reducible assumption) | assumption)
                  have q406 : x7_3 < (x3_1.length : Int) := of_decide_eq_true (by first | (with_reducible assumption) | assumption)
                  obtain ⟨ad406, e406, hx406_0⟩ := Kd.at_int (Kd.R_reads' HO_3.out).2.2 x7_3 p406 q406
                  obtain rfl : ad404 = ad406 := (by injection e406)
                  replace p406 := eq_true p406
                  replace q406 := eq_true q406
                  have p407 : 0 ≤ (x4_3 : Int) := of_decide_eq_true (by first | (with_reducible assumption) | assumption)
                  have q407 : x4_3 < (x3_1.length : Int) := of_decide_eq_true (by first | (with_reducible assumption) | assumption)
                  obtain ⟨ad407, e407, hx407_0⟩ := Kd.at_int (Kd.R_reads' HO_3.out).2.2 x4_3 p407 q407
                  obtain rfl : ad404 = ad407 := (by injection e407)
                  replace p407 := eq_true p407
                  replace q407 := eq_true q407
                  go_wp2
                  repeat (go_quiet (fail); try go_wp2)
                  go_roundg k3
                  case measure => have := HK1.out; have := HJ19.out; have := HK3.out; omega
                  case rel => exact ⟨(x7_3), (x4_3), (wrap64 (x7_3 + 1)), (by first | rfl | (simp; done) | (simp [*]; done)), (by first | rfl | (simp; done) | (simp [*]; done)), (by first | rfl | (simp; done) | (simp [*]; done)), H', ⟨by have := HK1.out; have := HJ19.out; have := HK3.out; omega⟩, ⟨by (try simp only [hl3_1]); (with_reducible repeat (first | apply Kd.R_alloc | apply Kd.R_drewN | apply Kd.R_drew)); exact HO_3.out⟩, ⟨by repeat (first | (with_reducible first | exact HB.out | apply below_alloc | apply pw_below_drewN | apply below_drew1) | exact HB.out)⟩⟩
                 ·
                  rw [if_neg c26] at H
                  have c26b0 : decide ((rd x3_1 x7_3) < (rd x3_1 x4_3)) = false := decide_eq_false c26
                  clear c26
                  by_cases c27 : 0 ≤ x5_3
                  ·
                   rw [if_pos c27] at H
                   have c27b0 : decide (0 ≤ x5_3) = true := decide_eq_true c27
                   clear c27
                   by_cases c28 : x5_3 < (x3_1.length : Int)
                   ·
                    rw [if_pos c28] at H
                    have c28b0 : decide (x5_3 < (x3_1.length : Int)) = true := decide_eq_true c28
                    clear c28
                    by_cases c29 : (rd x3_1 x7_3) < (rd x3_1 x5_3)
                    ·
                     rw [if_pos c29] at H
                     have c29b0 : decide ((rd x3_1 x7_3) < (rd x3_1 x5_3)) = true := decide_eq_true c29
                     clear c29
                     have H' := Aside0.mk H
                     clear H
                     have p406 : 0 ≤ (x7_3 : Int) := of_decide_eq_true (by first | (with_reducible assumption) | assumption)
                     have q406 : x7_3 < (x3_1.length : Int) := of_decide_eq_true (by first | (with_reducible assumption) | assumption)
                     obtain ⟨ad406, e406, hx406_0⟩ := Kd.at_int (Kd.R_reads' HO_3.out).2.2 x7_3 p406 q406
                     obtain rfl : ad404 = ad406 := (by injection e406)
                     replace p406 := eq_true p406
                     replace q406 := eq_true q406
                     have p407 : 0 ≤ (x4_3 : Int) := of_decide_eq_true (by first | (with_reducible assumption) | assumption)
                     have q407 : x4_3 < (x3_1.length : Int) := of_decide_eq_true (by first | (with_reducible assumption) | assumption)
                     obtain ⟨ad407, e407, hx407_0⟩ := Kd.at_int (Kd.R_reads' HO_3.out).2.2 x4_3 p407 q407
                     obtain rfl : ad404 = ad407 := (by injection e407)
                     replace p407 := eq_true p407
                     replace q407 := eq_true q407
                     have p408 : 0 ≤ (x7_3 : Int) := of_decide_eq_true (by first | (with_reducible assumption) | assumption)
                     have q408 : x7_3 < (x3_1.length : Int) := of_decide_eq_true (by first | (with_reducible assumption) | assumption)
                     obtain ⟨ad408, e408, hx408_0⟩ := Kd.at_int (Kd.R_reads' HO_3.out).2.2 x7_3 p408 q408
                     obtain rfl : ad404 = ad408 := (by injection e408)
                     replace p408 := eq_true p408
                     replace q408 := eq_true q408
                     have p409 : 0 ≤ (x5_3 : Int) := of_decide_eq_true (by first | (with_reducible assumption) | assumption)
                     have q409 : x5_3 < (x3_1.length : Int) := of_decide_eq_true (by first | (with_reducible assumption) | assumption)
                     obtain ⟨ad409, e409, hx409_0⟩ := Kd.at_int (Kd.R_reads' HO_3.out).2.2 x5_3 p409 q409
                     obtain rfl : ad404 = ad409 := (by injection e409)
                     replace p409 := eq_true p409
                     replace q409 := eq_true q409
                     go_wp2
                     repeat (go_quiet (fail); try go_wp2)
                     go_roundg k3
                     case measure => have := HK1.out; have := HJ19.out; have := HK3.out; omega
                     case rel => exact ⟨(x4_3), (x7_3), (wrap64 (x7_3 + 1)), (by first | rfl | (simp; done) | (simp [*]; done)), (by first | rfl | (simp; done) | (simp [*]; done)), (by first | rfl | (simp; done) | (simp [*]; done)), H', ⟨by have := HK1.out; have := HJ19.out; have := HK3.out; omega⟩, ⟨by (try simp only [hl3_1]); (with_reducible repeat (first | apply Kd.R_alloc | apply Kd.R_drewN | apply Kd.R_drew)); exact HO_3.out⟩, ⟨by repeat (first | (with_reducible first | exact HB.out | apply below_alloc | apply pw_below_drewN | apply below_drew1) | exact HB.out)⟩⟩
                    ·
                     rw [if_neg c29] at H
                     have c29b0 : decide ((rd x3_1 x7_3) < (rd x3_1 x5_3)) = false := decide_eq_false c29
                     clear c29
                     have H' := Aside0.mk H
                     clear H
                     have p406 : 0 ≤ (x7_3 : Int) := of_decide_eq_true (by first | (with_reducible assumption) | assumption)
                     have q406 : x7_3 < (x3_1.length : Int) := of_decide_eq_true (by first | (with_reducible assumption) | assumption)
                     obtain ⟨ad406, e406, hx406_0⟩ := Kd.at_int (Kd.R_reads' HO_3.out).2.2 x7_3 p406 q406
                     obtain rfl : ad404 = ad406 := (by injection e406)
                     replace p406 := eq_true p406
                     replace q406 := eq_true q406
                     have p407 : 0 ≤ (x4_3 : Int) := of_decide_eq_true (by first | (with_reducible assumption) | assumption)
                     have q407 : x4_3 < (x3_1.length : Int) := of_decide_eq_true (by first | (with_reducible assumption) | assumption)
                     obtain ⟨ad407, e407, hx407_0⟩ := Kd.at_int (Kd.R_reads' HO_3.out).2.2 x4_3 p407 q407
                     obtain rfl : ad404 = ad407 := (by injection e407)
                     replace p407 := eq_true p407
                     replace q407 := eq_true q407
                     have p408 : 0 ≤ (x7_3 : Int) := of_decide_eq_true (by first | (with_reducible assumption) | assumption)
                     have q408 : x7_3 < (x3_1.length : Int) := of_decide_eq_true (by first | (with_reducible assumption) | assumption)
                     obtain ⟨ad408, e408, hx408_0⟩ := Kd.at_int (Kd.R_reads' HO_3.out).2.2 x7_3 p408 q408
                     obtain rfl : ad404 = ad408 := (by injection e408)
                     replace p408 := eq_true p408
                     replace q408 := eq_true q408
                     have p409 : 0 ≤ (x5_3 : Int) := of_decide_eq_true (by first | (with_reducible assumption) | assumption)
                     have q409 : x5_3 < (x3_1.length : Int) := of_decide_eq_true (by first | (with_reducible assumption) | assumption)
                     obtain ⟨ad409, e409, hx409_0⟩ := Kd.at_int (Kd.R_reads' HO_3.out).2.2 x5_3 p409 q409
                     obtain rfl : ad404 = ad409 := (by injection e409)
                     replace p409 := eq_true p409
                     replace q409 := eq_true q409
                     go_wp2
                     repeat (go_quiet (fail); try go_wp2)
                     go_roundg k3
                     case measure => have := HK1.out; have := HJ19.out; have := HK3.out; omega
                     case rel => exact ⟨(x4_3), (x5_3), (wrap64 (x7_3 + 1)), (by first | rfl | (simp; done) | (simp [*]; done)), (by first | rfl | (simp; done) | (simp [*]; done)), (by first | rfl | (simp; done) | (simp [*]; done)), H', ⟨by have := HK1.out; have := HJ19.out; have := HK3.out; omega⟩, ⟨by (try simp only [hl3_1]); (with_reducible repeat (first | apply Kd.R_alloc | apply Kd.R_drewN | apply Kd.R_drew)); exact HO_3.out⟩, ⟨by repeat (first | (with_reducible first | exact HB.out | apply below_alloc | apply pw_below_drewN | apply below_drew1) | exact HB.out)⟩⟩
                   ·
                    rw [if_neg c28] at H
                    exact absurd H (by simp)
                  ·
                   rw [if_neg c27] at H
                   exact absurd H (by simp)
                ·
                 rw [if_neg c25] at H
                 exact absurd H (by simp)
               ·
                rw [if_neg c24] at H
                exact absurd H (by simp)
              ·
               rw [if_neg c23] at H
               exact absurd H (by simp)
             ·
              rw [if_neg c22] at H
              have c22b0 : decide (x7_3 < (x3_1.length : Int)) = false := decide_eq_false c22
              clear c22
              have H' := Aside0.mk H
              clear H
              go_wp2
              repeat (go_quiet (fail); try go_wp2)
              go_loopg [8, 9] k3 (fun kq v8 v9 w' => ∃ (x8_4 : List Int) (x9_4 : Int), v9 = .int .i64 x9_4 ∧ Aside0 (turndownlaw06_CodeMerges.l2 kq x3_1 x4_3 x5_3 x8_4 x9_4 = some r) ∧ Aside0 (kq ≤ k3) ∧ Aside0 (Kd.R (Kd.int .i64) 3 w' w.heap.size (fun k_ => some k_ ≠ (v8 : Value).ownBlock) (.slice (some ad404) x3_1.length co9) x3_1) ∧ Aside0 (Kd.R (Kd.int .i64) 3 w' w.heap.size (fun k_ => some k_ ≠ ((.slice (some ad404) x3_1.length co9) : Value).ownBlock) v8 x8_4) ∧ Aside0 (Below w.heap.size w w'))
              case atStart => exact ⟨(([] : List Int)), (0), (by first | rfl | (simp; done) | (simp [*]; done)), H', ⟨Nat.le_refl _⟩, ⟨by (try simp only [hl3_1]); (with_reducible repeat (first | apply Kd.R_alloc | apply Kd.R_drewN | apply Kd.R_drew)); exact Kd.R_mono HO_3.out (fun _ hk => (by simp [Value.ownBlock]))⟩, ⟨by (try simp only [hl3_1]); first | exact Kd.R_nil _ _ _ _ _ | exact Kd.N_nil _ _ _ _ _ | exact Kd.V_nil _ _ _ _ _ | exact Kd.Q_nil _ _ _ _ _ | exact Kd.S_nil _ _ _ _ _⟩, ⟨by repeat (first | (with_reducible first | exact HB.out | apply below_alloc | apply pw_below_drewN | apply below_drew1) | exact HB.out)⟩⟩
              case round =>
               clear H'
               try clear c1
               try clear p1
               try clear q1
               try clear hx1
               try clear hf1
               try clear c2
               try clear p2
               try clear c3
               try clear c3b0
               try clear c3b1
               try clear p4
               try clear q4
               try clear hx4
               try clear qi4
               try clear p6
               try clear c10
               try clear c10b0
               try clear c11
               try clear c11b0
               try clear p13
               try clear q13
               try clear hx13
               try clear hf13
               try clear c16
               try clear c16b0
               try clear c17
               try clear c17b0
               try clear c17b1
               try clear c18
               try clear c18b0
               try clear c19
               try clear c19b0
               try clear c19b1
               try clear c21
               try clear c21b0
               try clear c22
               try clear c22b0
               try clear c23
               try clear c23b0
               try clear c24
               try clear c24b0
               try clear c25
               try clear c25b0
               try clear c26
               try clear c26b0
               try clear c27
               try clear c27b0
               try clear c28
               try clear c28b0
               try clear c29
               try clear c29b0
               try clear hx13_0
               try clear hx401_0
               try clear hx404_0
               try clear hx405_0
               try clear hx406_0
               try clear hx407_0
               try clear hx408_0
               try clear hx409_0
               try clear p1
               try clear p13
               try clear p2
               try clear p4
               try clear p401
               try clear p404
               try clear p405
               try clear p406
               try clear p407
               try clear p408
               try clear p409
               try clear p6
               try clear q1
               try clear q13
               try clear q4
               try clear q401
               try clear q404
               try clear q405
               try clear q406
               try clear q407
               try clear q408
               try clear q409
               obtain ⟨x8_4, x9_4, rfl, HA, HK4, HO_3, HO_8, HB⟩ := hrel
               cases gk with
               | zero => exact absurd HA.out (by simp [turndownlaw06_CodeMerges.l2])
               | succ k4 =>
                have H := HA.out
                clear HA
                simp only [turndownlaw06_CodeMerges.l2] at H
                by_cases c30 : x9_4 < (x3_1.length : Int)
                ·
                 rw [if_pos c30] at H
                 have c30b0 : decide (x9_4 < (x3_1.length : Int)) = true := decide_eq_true c30
                 clear c30
                 by_cases c31 : x9_4 = x4_3
                 ·
                  rw [if_pos c31] at H
                  have c31b0 : (x9_4 == x4_3) = true := beq_iff_eq.mpr c31
                  have c31b1 : (x9_4 != x4_3) = false := bne_eq_false_iff_eq.mpr c31
                  clear c31
                  have H' := Aside0.mk H
                  clear H
                  go_wp2
                  repeat (go_quiet (fail); try go_wp2)
                  go_roundg k4
                  case measure => have := HK1.out; have := HJ19.out; have := HK3.out; have := HK4.out; omega
                  case rel => exact ⟨(x8_4), (wrap64 (x9_4 + 1)), (by first | rfl | (simp; done) | (simp [*]; done)), H', ⟨by have := HK1.out; have := HJ19.out; have := HK3.out; have := HK4.out; omega⟩, ⟨by (try simp only [hl3_1]); (with_reducible repeat (first | apply Kd.R_alloc | apply Kd.R_drewN | apply Kd.R_drew)); exact HO_3.out⟩, ⟨by (try simp only [hl3_1]); (with_reducible repeat (first | apply Kd.R_alloc | apply Kd.R_drewN | apply Kd.R_drew)); exact HO_8.out⟩, ⟨by repeat (first | (with_reducible first | exact HB.out | apply below_alloc | apply pw_below_drewN | apply below_drew1) | exact HB.out)⟩⟩
                 ·
                  rw [if_neg c31] at H
                  have c31b0 : (x9_4 == x4_3) = false := beq_eq_false_iff_ne.mpr c31
                  have c31b1 : (x9_4 != x4_3) = true := bne_iff_ne.mpr c31
                  by_cases c32 : x9_4 = x5_3
                  ·
                   rw [if_pos c32] at H
                   have c32b0 : (x9_4 == x5_3) = true := beq_iff_eq.mpr c32
                   have c32b1 : (x9_4 != x5_3) = false := bne_eq_false_iff_eq.mpr c32
                   clear c32
                   have H' := Aside0.mk H
                   clear H
                   go_wp2
                   repeat (go_quiet (fail); try go_wp2)
                   go_roundg k4
                   case measure => have := HK1.out; have := HJ19.out; have := HK3.out; have := HK4.out; omega
                   case rel => exact ⟨(x8_4), (wrap64 (x9_4 + 1)), (by first | rfl | (simp; done) | (simp [*]; done)), H', ⟨by have := HK1.out; have := HJ19.out; have := HK3.out; have := HK4.out; omega⟩, ⟨by (try simp only [hl3_1]); (with_reducible repeat (first | apply Kd.R_alloc | apply Kd.R_drewN | apply Kd.R_drew)); exact HO_3.out⟩, ⟨by (try simp only [hl3_1]); (with_reducible repeat (first | apply Kd.R_alloc | apply Kd.R_drewN | apply Kd.R_drew)); exact HO_8.out⟩, ⟨by repeat (first | (with_reducible first | exact HB.out | apply below_alloc | apply pw_below_drewN | apply below_drew1) | exact HB.out)⟩⟩
                  ·
                   rw [if_neg c32] at H
                   have c32b0 : (x9_4 == x5_3) = false := beq_eq_false_iff_ne.mpr c32
                   have c32b1 : (x9_4 != x5_3) = true := bne_iff_ne.mpr c32
                   by_cases c33 : 0 ≤ x9_4
                   ·
                    rw [if_pos c33] at H
                    have c33b0 : decide (0 ≤ x9_4) = true := decide_eq_true c33
                    clear c33
                    by_cases c34 : x8_4.length < 17592186044416
                    ·
                     rw [if_pos c34] at H
                     have LMc34 := Aside0.mk c34
                     clear c34
                     obtain ⟨y411, hy411⟩ : ∃ y_ : List Int, y_ = (x8_4 ++ [rd x3_1 x9_4]) := ⟨_, rfl⟩
                     replace H : (turndownlaw06_CodeMerges.l2 k4 x3_1 x4_3 x5_3 y411 (wrap64 (x9_4 + 1))) = some r := by first | (rw [hy411]; with_reducible exact H) | (have H2_ := (Option.bind_some _ _).symm.trans H; rw [hy411]; with_reducible exact H2_) | (have H2_ := (Option.bind_some _ _).symm.trans H; with_reducible exact H2_) | with_reducible exact H | (rw [hy411]; exact H) | exact H
                     have Ny411 := Aside0.mk hy411
                     clear hy411
                     have H' := Aside0.mk H
                     clear H
                     have p410 : 0 ≤ (x9_4 : Int) := of_decide_eq_true (by first | (with_reducible assumption) | assumption)
                     have q410 : x9_4 < (x3_1.length : Int) := of_decide_eq_true (by first | (with_reducible assumption) | assumption)
                     obtain ⟨ad410, e410, hx410_0⟩ := Kd.at_int (Kd.R_reads' HO_3.out).2.2 x9_4 p410 q410
                     obtain rfl : ad404 = ad410 := (by injection e410)
                     replace p410 := eq_true p410
                     replace q410 := eq_true q410
                     go_wp2_with (first | ((with_reducible refine gate_builtin (b := .append) (xs := #[.tmp 87, .tmp 92]) rfl ?_); at_builtin; refine Kd.R_append (Kd.int .i64) (w0 := w) w.heap.size rfl (.tmp 87) (.tmp 92) 22 3 (.int .i64 0) 8 rfl Try.underlying22 info3 rfl (by decide) (by omega) u8 x8_4 (rd x3_1 x9_4) [.int .i64 (rd x3_1 x9_4)] (fun k_ => some k_ ≠ (.slice (some ad404) x3_1.length co9 : Value).ownBlock) (fun _ => False) rfl rfl ?aP (fun _ hk => hk.elim) ?aF ?aO ?aB ?aS ?aL ?_; (case aP => exact rfl); (case aB => exact (by repeat (first | (with_reducible first | exact HB.out | apply below_alloc | apply pw_below_drewN | apply below_drew1) | exact HB.out))); (case aF => exact (fun k_ hk => Kd.fresh' (Kd.R_lt (by (with_reducible repeat (first | apply Kd.R_alloc | apply Kd.R_drewN | apply Kd.R_drew)); exact HO_3.out)) k_ hk)); (case aO => exact (by (with_reducible repeat (first | apply Kd.R_alloc | apply Kd.R_drewN | apply Kd.R_drew)); exact HO_8.out)); (case aS => exact (below_size (by repeat (first | (with_reducible first | exact HB.out | apply below_alloc | apply pw_below_drewN | apply below_drew1) | exact HB.out)))); (case aL => have := LMc34.out; omega); intro v412 w35 ho hb hg hat; rw [← Ny411.out] at ho; have n0_ := Aside0.mk (Kd.R_after (ok := (fun _ => True)) (by (with_reducible repeat (first | apply Kd.R_alloc | apply Kd.R_drewN | apply Kd.R_drew)); exact Kd.R_mono HO_3.out (fun _ hk => ⟨trivial, hk⟩)) hg hat); have n1_ := Aside0.mk (hb); have n2_ := Aside0.mk (ho); clear HO_3; clear HB; clear HO_8; have HO_3 := n0_; have HB := n1_; have HO413 := n2_; clear n0_ n1_ n2_; clear ho hb hg hat))
                     repeat (go_quiet (first | ((with_reducible refine gate_builtin (b := .append) (xs := #[.tmp 87, .tmp 92]) rfl ?_); at_builtin; refine Kd.R_append (Kd.int .i64) (w0 := w) w.heap.size rfl (.tmp 87) (.tmp 92) 22 3 (.int .i64 0) 8 rfl Try.underlying22 info3 rfl (by decide) (by omega) u8 x8_4 (rd x3_1 x9_4) [.int .i64 (rd x3_1 x9_4)] (fun k_ => some k_ ≠ (.slice (some ad404) x3_1.length co9 : Value).ownBlock) (fun _ => False) rfl rfl ?aP (fun _ hk => hk.elim) ?aF ?aO ?aB ?aS ?aL ?_; (case aP => exact rfl); (case aB => exact (by repeat (first | (with_reducible first | exact HB.out | apply below_alloc | apply pw_below_drewN | apply below_drew1) | exact HB.out))); (case aF => exact (fun k_ hk => Kd.fresh' (Kd.R_lt (by (with_reducible repeat (first | apply Kd.R_alloc | apply Kd.R_drewN | apply Kd.R_drew)); exact HO_3.out)) k_ hk)); (case aO => exact (by (with_reducible repeat (first | apply Kd.R_alloc | apply Kd.R_drewN | apply Kd.R_drew)); exact HO_8.out)); (case aS => exact (below_size (by repeat (first | (with_reducible first | exact HB.out | apply below_alloc | apply pw_below_drewN | apply below_drew1) | exact HB.out)))); (case aL => have := LMc34.out; omega); intro v412 w35 ho hb hg hat; rw [← Ny411.out] at ho; have n0_ := Aside0.mk (Kd.R_after (ok := (fun _ => True)) (by (with_reducible repeat (first | apply Kd.R_alloc | apply Kd.R_drewN | apply Kd.R_drew)); exact Kd.R_mono HO_3.out (fun _ hk => ⟨trivial, hk⟩)) hg hat); have n1_ := Aside0.mk (hb); have n2_ := Aside0.mk (ho); clear HO_3; clear HB; clear HO_8; have HO_3 := n0_; have HB := n1_; have HO413 := n2_; clear n0_ n1_ n2_; clear ho hb hg hat)); try go_wp2_with (first | ((with_reducible refine gate_builtin (b := .append) (xs := #[.tmp 87, .tmp 92]) rfl ?_); at_builtin; refine Kd.R_append (Kd.int .i64) (w0 := w) w.heap.size rfl (.tmp 87) (.tmp 92) 22 3 (.int .i64 0) 8 rfl Try.underlying22 info3 rfl (by decide) (by omega) u8 x8_4 (rd x3_1 x9_4) [.int .i64 (rd x3_1 x9_4)] (fun k_ => some k_ ≠ (.slice (some ad404) x3_1.length co9 : Value).ownBlock) (fun _ => False) rfl rfl ?aP (fun _ hk => hk.elim) ?aF ?aO ?aB ?aS ?aL ?_; (case aP => exact rfl); (case aB => exact (by repeat (first | (with_reducible first | exact HB.out | apply below_alloc | apply pw_below_drewN | apply below_drew1) | exact HB.out))); (case aF => exact (fun k_ hk => Kd.fresh' (Kd.R_lt (by (with_reducible repeat (first | apply Kd.R_alloc | apply Kd.R_drewN | apply Kd.R_drew)); exact HO_3.out)) k_ hk)); (case aO => exact (by (with_reducible repeat (first | apply Kd.R_alloc | apply Kd.R_drewN | apply Kd.R_drew)); exact HO_8.out)); (case aS => exact (below_size (by repeat (first | (with_reducible first | exact HB.out | apply below_alloc | apply pw_below_drewN | apply below_drew1) | exact HB.out)))); (case aL => have := LMc34.out; omega); intro v412 w35 ho hb hg hat; rw [← Ny411.out] at ho; have n0_ := Aside0.mk (Kd.R_after (ok := (fun _ => True)) (by (with_reducible repeat (first | apply Kd.R_alloc | apply Kd.R_drewN | apply Kd.R_drew)); exact Kd.R_mono HO_3.out (fun _ hk => ⟨trivial, hk⟩)) hg hat); have n1_ := Aside0.mk (hb); have n2_ := Aside0.mk (ho); clear HO_3; clear HB; clear HO_8; have HO_3 := n0_; have HB := n1_; have HO413 := n2_; clear n0_ n1_ n2_; clear ho hb hg hat)))
                     go_roundg k4
                     case measure => have := HK1.out; have := HJ19.out; have := HK3.out; have := HK4.out; omega
                     case rel => exact ⟨(y411), (wrap64 (x9_4 + 1)), (by first | rfl | (simp; done) | (simp [*]; done)), H', ⟨by have := HK1.out; have := HJ19.out; have := HK3.out; have := HK4.out; omega⟩, ⟨by (try simp only [hl3_1]); (with_reducible repeat (first | apply Kd.R_alloc | apply Kd.R_drewN | apply Kd.R_drew)); exact Kd.R_mono HO_3.out (fun _ hk => hk.2)⟩, ⟨by (try simp only [hl3_1]); (with_reducible repeat (first | apply Kd.R_alloc | apply Kd.R_drewN | apply Kd.R_drew)); exact HO413.out⟩, ⟨by repeat (first | (with_reducible first | exact HB.out | apply below_alloc | apply pw_below_drewN | apply below_drew1) | exact HB.out)⟩⟩
                    ·
                     rw [if_neg c34] at H
                     exact absurd H (by simp)
                   ·
                    rw [if_neg c33] at H
                    exact absurd H (by simp)
                ·
                 rw [if_neg c30] at H
                 have c30b0 : decide (x9_4 < (x3_1.length : Int)) = false := decide_eq_false c30
                 clear c30
                 by_cases c36 : 0 ≤ x4_3
                 ·
                  rw [if_pos c36] at H
                  have c36b0 : decide (0 ≤ x4_3) = true := decide_eq_true c36
                  clear c36
                  by_cases c37 : x4_3 < (x3_1.length : Int)
                  ·
                   rw [if_pos c37] at H
                   have c37b0 : decide (x4_3 < (x3_1.length : Int)) = true := decide_eq_true c37
                   clear c37
                   by_cases c38 : 0 ≤ x5_3
                   ·
                    rw [if_pos c38] at H
                    have c38b0 : decide (0 ≤ x5_3) = true := decide_eq_true c38
                    clear c38
                    by_cases c39 : x5_3 < (x3_1.length : Int)
                    ·
                     rw [if_pos c39] at H
                     have c39b0 : decide (x5_3 < (x3_1.length : Int)) = true := decide_eq_true c39
                     clear c39
                     by_cases c40 : x8_4.length < 17592186044416
                     ·
                      rw [if_pos c40] at H
                      have LMc40 := Aside0.mk c40
                      clear c40
                      obtain ⟨y416, hy416⟩ : ∃ y_ : List Int, y_ = (x8_4 ++ [wrap64 ((rd x3_1 x4_3) + (rd x3_1 x5_3))]) := ⟨_, rfl⟩
                      replace H : ((code_Best.f k4 x3_1 32).bind fun bt419 => ((code_Best.f k4 y416 32).bind fun bt424 => (if bt419.2.2 = 0 then (if bt424.2.2 = 0 then (if bt419.2.1 = (wrap64 (bt424.2.1 + (wrap64 ((rd x3_1 x4_3) + (rd x3_1 x5_3))))) then ((turndownlaw06_awake.f k4).bind fun t429 => (some t429)) else (some false)) else (some false)) else (some false)))) = some r := by first | (rw [hy416]; with_reducible exact H) | (have H2_ := (Option.bind_some _ _).symm.trans H; rw [hy416]; with_reducible exact H2_) | (have H2_ := (Option.bind_some _ _).symm.trans H; with_reducible exact H2_) | with_reducible exact H | (rw [hy416]; exact H) | exact H
                      have Ny416 := Aside0.mk hy416
                      clear hy416
                      replace H := Option.bind_eq_some_iff.mp H
                      obtain ⟨⟨t419, t420, t421⟩, A410, H⟩ := H
                      replace H : ((code_Best.f k4 y416 32).bind fun bt424 => (if t421 = 0 then (if bt424.2.2 = 0 then (if t420 = (wrap64 (bt424.2.1 + (wrap64 ((rd x3_1 x4_3) + (rd x3_1 x5_3))))) then ((turndownlaw06_awake.f k4).bind fun t429 => (some t429)) else (some false)) else (some false)) else (some false))) = some r := H
                      have A41 := Aside0.mk A410
                      clear A410
                      replace H := Option.bind_eq_some_iff.mp H
                      obtain ⟨⟨t424, t425, t426⟩, A420, H⟩ := H
                      replace H : (if t421 = 0 then (if t426 = 0 then (if t420 = (wrap64 (t425 + (wrap64 ((rd x3_1 x4_3) + (rd x3_1 x5_3))))) then ((turndownlaw06_awake.f k4).bind fun t429 => (some t429)) else (some false)) else (some false)) else (some false)) = some r := H
                      have A42 := Aside0.mk A420
                      clear A420
                      by_cases c43 : t421 = 0
                      ·
                       rw [if_pos c43] at H
                       have c43b0 : (t421 == 0) = true := beq_iff_eq.mpr c43
                       have c43b1 : (t421 != 0) = false := bne_eq_false_iff_eq.mpr c43
                       clear c43
                       by_cases c44 : t426 = 0
                       ·
                        rw [if_pos c44] at H
                        have c44b0 : (t426 == 0) = true := beq_iff_eq.mpr c44
                        have c44b1 : (t426 != 0) = false := bne_eq_false_iff_eq.mpr c44
                        clear c44
                        by_cases c45 : t420 = (wrap64 (t425 + (wrap64 ((rd x3_1 x4_3) + (rd x3_1 x5_3)))))
                        ·
                         rw [if_pos c45] at H
                         have c45b0 : (t420 == (wrap64 (t425 + (wrap64 ((rd x3_1 x4_3) + (rd x3_1 x5_3)))))) = true := beq_iff_eq.mpr c45
                         have c45b1 : (t420 != (wrap64 (t425 + (wrap64 ((rd x3_1 x4_3) + (rd x3_1 x5_3)))))) = false := bne_eq_false_iff_eq.mpr c45
                         clear c45
                         replace H := Option.bind_eq_some_iff.mp H
                         obtain ⟨t429, A460, H⟩ := H
                         replace H : (some t429) = some r := H
                         have A46 := Aside0.mk A460
                         clear A460
                         obtain rfl := Option.some.inj H
                         have p414 : 0 ≤ (x4_3 : Int) := of_decide_eq_true (by first | (with_reducible assumption) | assumption)
                         have q414 : x4_3 < (x3_1.length : Int) := of_decide_eq_true (by first | (with_reducible assumption) | assumption)
                         obtain ⟨ad414, e414, hx414_0⟩ := Kd.at_int (Kd.R_reads' HO_3.out).2.2 x4_3 p414 q414
                         obtain rfl : ad404 = ad414 := (by injection e414)
                         replace p414 := eq_true p414
                         replace q414 := eq_true q414
                         have p415 : 0 ≤ (x5_3 : Int) := of_decide_eq_true (by first | (with_reducible assumption) | assumption)
                         have q415 : x5_3 < (x3_1.length : Int) := of_decide_eq_true (by first | (with_reducible assumption) | assumption)
                         obtain ⟨ad415, e415, hx415_0⟩ := Kd.at_int (Kd.R_reads' HO_3.out).2.2 x5_3 p415 q415
                         obtain rfl : ad404 = ad415 := (by injection e415)
                         replace p415 := eq_true p415
                         replace q415 := eq_true q415
                         go_wp2_with (first | ((with_reducible refine gate_builtin (b := .append) (xs := #[.tmp 103, .tmp 105]) rfl ?_); at_builtin; refine Kd.R_append (Kd.int .i64) (w0 := w) w.heap.size rfl (.tmp 103) (.tmp 105) 22 3 (.int .i64 0) 8 rfl Try.underlying22 info3 rfl (by decide) (by omega) u8 x8_4 (wrap64 ((rd x3_1 x4_3) + (rd x3_1 x5_3))) [.int .i64 (wrap64 ((rd x3_1 x4_3) + (rd x3_1 x5_3)))] (fun k_ => some k_ ≠ (.slice (some ad404) x3_1.length co9 : Value).ownBlock) (fun _ => False) rfl rfl ?aP (fun _ hk => hk.elim) ?aF ?aO ?aB ?aS ?aL ?_; (case aP => exact rfl); (case aB => exact (by repeat (first | (with_reducible first | exact HB.out | apply below_alloc | apply pw_below_drewN | apply below_drew1) | exact HB.out))); (case aF => exact (fun k_ hk => Kd.fresh' (Kd.R_lt (by (with_reducible repeat (first | apply Kd.R_alloc | apply Kd.R_drewN | apply Kd.R_drew)); exact HO_3.out)) k_ hk)); (case aO => exact (by (with_reducible repeat (first | apply Kd.R_alloc | apply Kd.R_drewN | apply Kd.R_drew)); exact HO_8.out)); (case aS => exact (below_size (by repeat (first | (with_reducible first | exact HB.out | apply below_alloc | apply pw_below_drewN | apply below_drew1) | exact HB.out)))); (case aL => have := LMc40.out; omega); intro v417 w47 ho hb hg hat; rw [← Ny416.out] at ho; have n0_ := Aside0.mk (Kd.R_after (ok := (fun _ => True)) (by (with_reducible repeat (first | apply Kd.R_alloc | apply Kd.R_drewN | apply Kd.R_drew)); exact Kd.R_mono HO_3.out (fun _ hk => ⟨trivial, hk⟩)) hg hat); have n1_ := Aside0.mk (hb); have n2_ := Aside0.mk (ho); clear HO_3; clear HB; clear HO_8; have HO_3 := n0_; have HB := n1_; have HO418 := n2_; clear n0_ n1_ n2_; clear ho hb hg hat) | (go_at_call 20; (with_reducible refine (code_Best.calls k4 _ _ x3_1 32 t419 t420 t421 _ ?side1 ?side2 A41.out).mono ?_); (case side1 => repeat (first | exact (Kd.R_reads' HO_3.out).2.2 | (with_reducible refine Kd.C_alloc ?_ _) | (with_reducible refine Kd.C_drewN ?_ _) | (with_reducible refine Kd.C_drew ?_))); (case side2 => exact (Kd.R_reads' HO_3.out).2.1); rintro e w48 ⟨v422, rfl, ho0, hb⟩; have n0_ := Aside0.mk (Kd.R_elder' (by (with_reducible repeat (first | apply Kd.R_alloc | apply Kd.R_drewN | apply Kd.R_drew)); exact HO_3.out) (Kd.R_base ho0) hb); have n1_ := Aside0.mk (Kd.R_elder' (by (with_reducible repeat (first | apply Kd.R_alloc | apply Kd.R_drewN | apply Kd.R_drew)); exact HO418.out) (Kd.R_base ho0) hb); have n2_ := Aside0.mk (Kd.R_lower (Kd.R_new' (Kd.R_new' ho0 (Kd.R_lt (by (with_reducible repeat (first | apply Kd.R_alloc | apply Kd.R_drewN | apply Kd.R_drew)); exact HO_3.out))) (Kd.R_lt (by (with_reducible repeat (first | apply Kd.R_alloc | apply Kd.R_drewN | apply Kd.R_drew)); exact HO418.out))) (below_size (by repeat (first | (with_reducible first | exact HB.out | apply below_alloc | apply pw_below_drewN | apply below_drew1) | exact HB.out)))); have n3_ := Aside0.mk (below_step (by repeat (first | (with_reducible first | exact HB.out | apply below_alloc | apply pw_below_drewN | apply below_drew1) | exact HB.out)) hb); clear HO_3; clear HO418; clear HB; have HO_3 := n0_; have HO418 := n1_; have HO423 := n2_; have HB := n3_; clear n0_ n1_ n2_ n3_; (try clear hb); (try clear hb2); (try clear hk); (try clear hi); (try clear ho0); obtain ⟨Ao49, co49, eo49⟩ := Kd.R_slice HO418.out; subst eo49) | (go_at_call 20; (with_reducible refine (code_Best.calls k4 _ _ y416 32 t424 t425 t426 _ ?side1 ?side2 A42.out).mono ?_); (case side1 => repeat (first | exact (Kd.R_reads' HO418.out).2.2 | (with_reducible refine Kd.C_alloc ?_ _) | (with_reducible refine Kd.C_drewN ?_ _) | (with_reducible refine Kd.C_drew ?_))); (case side2 => exact (Kd.R_reads' HO418.out).2.1); rintro e w50 ⟨v427, rfl, ho0, hb⟩; have n0_ := Aside0.mk (Kd.R_elder' (by (with_reducible repeat (first | apply Kd.R_alloc | apply Kd.R_drewN | apply Kd.R_drew)); exact HO_3.out) (Kd.R_base ho0) hb); have n1_ := Aside0.mk (Kd.R_elder' (by (with_reducible repeat (first | apply Kd.R_alloc | apply Kd.R_drewN | apply Kd.R_drew)); exact HO418.out) (Kd.R_base ho0) hb); have n2_ := Aside0.mk (Kd.R_elder' (by (with_reducible repeat (first | apply Kd.R_alloc | apply Kd.R_drewN | apply Kd.R_drew)); exact HO423.out) (Kd.R_base ho0) hb); have n3_ := Aside0.mk (Kd.R_lower (Kd.R_new' (Kd.R_new' (Kd.R_new' ho0 (Kd.R_lt (by (with_reducible repeat (first | apply Kd.R_alloc | apply Kd.R_drewN | apply Kd.R_drew)); exact HO_3.out))) (Kd.R_lt (by (with_reducible repeat (first | apply Kd.R_alloc | apply Kd.R_drewN | apply Kd.R_drew)); exact HO418.out))) (Kd.R_lt (by (with_reducible repeat (first | apply Kd.R_alloc | apply Kd.R_drewN | apply Kd.R_drew)); exact HO423.out))) (below_size (by repeat (first | (with_reducible first | exact HB.out | apply below_alloc | apply pw_below_drewN | apply below_drew1) | exact HB.out)))); have n4_ := Aside0.mk (below_step (by repeat (first | (with_reducible first | exact HB.out | apply below_alloc | apply pw_below_drewN | apply below_drew1) | exact HB.out)) hb); clear HO_3; clear HO418; clear HO423; clear HB; have HO_3 := n0_; have HO418 := n1_; have HO423 := n2_; have HO428 := n3_; have HB := n4_; clear n0_ n1_ n2_ n3_ n4_; (try clear hb); (try clear hb2); (try clear hk); (try clear hi); (try clear ho0)) | (go_at_call 22; (with_reducible refine (turndownlaw06_awake.calls k4  t429 _ A46.out).mono ?_); rintro e w51 ⟨rfl, hb⟩; have n0_ := Aside0.mk (Kd.R_below (by (with_reducible repeat (first | apply Kd.R_alloc | apply Kd.R_drewN | apply Kd.R_drew)); exact HO_3.out) hb); have n1_ := Aside0.mk (Kd.R_below (by (with_reducible repeat (first | apply Kd.R_alloc | apply Kd.R_drewN | apply Kd.R_drew)); exact HO418.out) hb); have n2_ := Aside0.mk (Kd.R_below (by (with_reducible repeat (first | apply Kd.R_alloc | apply Kd.R_drewN | apply Kd.R_drew)); exact HO423.out) hb); have n3_ := Aside0.mk (Kd.R_below (by (with_reducible repeat (first | apply Kd.R_alloc | apply Kd.R_drewN | apply Kd.R_drew)); exact HO428.out) hb); have n4_ := Aside0.mk (below_step (by repeat (first | (with_reducible first | exact HB.out | apply below_alloc | apply pw_below_drewN | apply below_drew1) | exact HB.out)) hb); clear HO_3; clear HO418; clear HO423; clear HO428; clear HB; have HO_3 := n0_; have HO418 := n1_; have HO423 := n2_; have HO428 := n3_; have HB := n4_; clear n0_ n1_ n2_ n3_ n4_; (try clear hb); (try clear hb2); (try clear hk); (try clear hi)))
                         repeat (go_quiet (first | ((with_reducible refine gate_builtin (b := .append) (xs := #[.tmp 103, .tmp 105]) rfl ?_); at_builtin; refine Kd.R_append (Kd.int .i64) (w0 := w) w.heap.size rfl (.tmp 103) (.tmp 105) 22 3 (.int .i64 0) 8 rfl Try.underlying22 info3 rfl (by decide) (by omega) u8 x8_4 (wrap64 ((rd x3_1 x4_3) + (rd x3_1 x5_3))) [.int .i64 (wrap64 ((rd x3_1 x4_3) + (rd x3_1 x5_3)))] (fun k_ => some k_ ≠ (.slice (some ad404) x3_1.length co9 : Value).ownBlock) (fun _ => False) rfl rfl ?aP (fun _ hk => hk.elim) ?aF ?aO ?aB ?aS ?aL ?_; (case aP => exact rfl); (case aB => exact (by repeat (first | (with_reducible first | exact HB.out | apply below_alloc | apply pw_below_drewN | apply below_drew1) | exact HB.out))); (case aF => exact (fun k_ hk => Kd.fresh' (Kd.R_lt (by (with_reducible repeat (first | apply Kd.R_alloc | apply Kd.R_drewN | apply Kd.R_drew)); exact HO_3.out)) k_ hk)); (case aO => exact (by (with_reducible repeat (first | apply Kd.R_alloc | apply Kd.R_drewN | apply Kd.R_drew)); exact HO_8.out)); (case aS => exact (below_size (by repeat (first | (with_reducible first | exact HB.out | apply below_alloc | apply pw_below_drewN | apply below_drew1) | exact HB.out)))); (case aL => have := LMc40.out; omega); intro v417 w47 ho hb hg hat; rw [← Ny416.out] at ho; have n0_ := Aside0.mk (Kd.R_after (ok := (fun _ => True)) (by (with_reducible repeat (first | apply Kd.R_alloc | apply Kd.R_drewN | apply Kd.R_drew)); exact Kd.R_mono HO_3.out (fun _ hk => ⟨trivial, hk⟩)) hg hat); have n1_ := Aside0.mk (hb); have n2_ := Aside0.mk (ho); clear HO_3; clear HB; clear HO_8; have HO_3 := n0_; have HB := n1_; have HO418 := n2_; clear n0_ n1_ n2_; clear ho hb hg hat) | (go_at_call 20; (with_reducible refine (code_Best.calls k4 _ _ x3_1 32 t419 t420 t421 _ ?side1 ?side2 A41.out).mono ?_); (case side1 => repeat (first | exact (Kd.R_reads' HO_3.out).2.2 | (with_reducible refine Kd.C_alloc ?_ _) | (with_reducible refine Kd.C_drewN ?_ _) | (with_reducible refine Kd.C_drew ?_))); (case side2 => exact (Kd.R_reads' HO_3.out).2.1); rintro e w48 ⟨v422, rfl, ho0, hb⟩; have n0_ := Aside0.mk (Kd.R_elder' (by (with_reducible repeat (first | apply Kd.R_alloc | apply Kd.R_drewN | apply Kd.R_drew)); exact HO_3.out) (Kd.R_base ho0) hb); have n1_ := Aside0.mk (Kd.R_elder' (by (with_reducible repeat (first | apply Kd.R_alloc | apply Kd.R_drewN | apply Kd.R_drew)); exact HO418.out) (Kd.R_base ho0) hb); have n2_ := Aside0.mk (Kd.R_lower (Kd.R_new' (Kd.R_new' ho0 (Kd.R_lt (by (with_reducible repeat (first | apply Kd.R_alloc | apply Kd.R_drewN | apply Kd.R_drew)); exact HO_3.out))) (Kd.R_lt (by (with_reducible repeat (first | apply Kd.R_alloc | apply Kd.R_drewN | apply Kd.R_drew)); exact HO418.out))) (below_size (by repeat (first | (with_reducible first | exact HB.out | apply below_alloc | apply pw_below_drewN | apply below_drew1) | exact HB.out)))); have n3_ := Aside0.mk (below_step (by repeat (first | (with_reducible first | exact HB.out | apply below_alloc | apply pw_below_drewN | apply below_drew1) | exact HB.out)) hb); clear HO_3; clear HO418; clear HB; have HO_3 := n0_; have HO418 := n1_; have HO423 := n2_; have HB := n3_; clear n0_ n1_ n2_ n3_; (try clear hb); (try clear hb2); (try clear hk); (try clear hi); (try clear ho0); obtain ⟨Ao49, co49, eo49⟩ := Kd.R_slice HO418.out; subst eo49) | (go_at_call 20; (with_reducible refine (code_Best.calls k4 _ _ y416 32 t424 t425 t426 _ ?side1 ?side2 A42.out).mono ?_); (case side1 => repeat (first | exact (Kd.R_reads' HO418.out).2.2 | (with_reducible refine Kd.C_alloc ?_ _) | (with_reducible refine Kd.C_drewN ?_ _) | (with_reducible refine Kd.C_drew ?_))); (case side2 => exact (Kd.R_reads' HO418.out).2.1); rintro e w50 ⟨v427, rfl, ho0, hb⟩; have n0_ := Aside0.mk (Kd.R_elder' (by (with_reducible repeat (first | apply Kd.R_alloc | apply Kd.R_drewN | apply Kd.R_drew)); exact HO_3.out) (Kd.R_base ho0) hb); have n1_ := Aside0.mk (Kd.R_elder' (by (with_reducible repeat (first | apply Kd.R_alloc | apply Kd.R_drewN | apply Kd.R_drew)); exact HO418.out) (Kd.R_base ho0) hb); have n2_ := Aside0.mk (Kd.R_elder' (by (with_reducible repeat (first | apply Kd.R_alloc | apply Kd.R_drewN | apply Kd.R_drew)); exact HO423.out) (Kd.R_base ho0) hb); have n3_ := Aside0.mk (Kd.R_lower (Kd.R_new' (Kd.R_new' (Kd.R_new' ho0 (Kd.R_lt (by (with_reducible repeat (first | apply Kd.R_alloc | apply Kd.R_drewN | apply Kd.R_drew)); exact HO_3.out))) (Kd.R_lt (by (with_reducible repeat (first | apply Kd.R_alloc | apply Kd.R_drewN | apply Kd.R_drew)); exact HO418.out))) (Kd.R_lt (by (with_reducible repeat (first | apply Kd.R_alloc | apply Kd.R_drewN | apply Kd.R_drew)); exact HO423.out))) (below_size (by repeat (first | (with_reducible first | exact HB.out | apply below_alloc | apply pw_below_drewN | apply below_drew1) | exact HB.out)))); have n4_ := Aside0.mk (below_step (by repeat (first | (with_reducible first | exact HB.out | apply below_alloc | apply pw_below_drewN | apply below_drew1) | exact HB.out)) hb); clear HO_3; clear HO418; clear HO423; clear HB; have HO_3 := n0_; have HO418 := n1_; have HO423 := n2_; have HO428 := n3_; have HB := n4_; clear n0_ n1_ n2_ n3_ n4_; (try clear hb); (try clear hb2); (try clear hk); (try clear hi); (try clear ho0)) | (go_at_call 22; (with_reducible refine (turndownlaw06_awake.calls k4  t429 _ A46.out).mono ?_); rintro e w51 ⟨rfl, hb⟩; have n0_ := Aside0.mk (Kd.R_below (by (with_reducible repeat (first | apply Kd.R_alloc | apply Kd.R_drewN | apply Kd.R_drew)); exact HO_3.out) hb); have n1_ := Aside0.mk (Kd.R_below (by (with_reducible repeat (first | apply Kd.R_alloc | apply Kd.R_drewN | apply Kd.R_drew)); exact HO418.out) hb); have n2_ := Aside0.mk (Kd.R_below (by (with_reducible repeat (first | apply Kd.R_alloc | apply Kd.R_drewN | apply Kd.R_drew)); exact HO423.out) hb); have n3_ := Aside0.mk (Kd.R_below (by (with_reducible repeat (first | apply Kd.R_alloc | apply Kd.R_drewN | apply Kd.R_drew)); exact HO428.out) hb); have n4_ := Aside0.mk (below_step (by repeat (first | (with_reducible first | exact HB.out | apply below_alloc | apply pw_below_drewN | apply below_drew1) | exact HB.out)) hb); clear HO_3; clear HO418; clear HO423; clear HO428; clear HB; have HO_3 := n0_; have HO418 := n1_; have HO423 := n2_; have HO428 := n3_; have HB := n4_; clear n0_ n1_ n2_ n3_ n4_; (try clear hb); (try clear hb2); (try clear hk); (try clear hi))); try go_wp2_with (first | ((with_reducible refine gate_builtin (b := .append) (xs := #[.tmp 103, .tmp 105]) rfl ?_); at_builtin; refine Kd.R_append (Kd.int .i64) (w0 := w) w.heap.size rfl (.tmp 103) (.tmp 105) 22 3 (.int .i64 0) 8 rfl Try.underlying22 info3 rfl (by decide) (by omega) u8 x8_4 (wrap64 ((rd x3_1 x4_3) + (rd x3_1 x5_3))) [.int .i64 (wrap64 ((rd x3_1 x4_3) + (rd x3_1 x5_3)))] (fun k_ => some k_ ≠ (.slice (some ad404) x3_1.length co9 : Value).ownBlock) (fun _ => False) rfl rfl ?aP (fun _ hk => hk.elim) ?aF ?aO ?aB ?aS ?aL ?_; (case aP => exact rfl); (case aB => exact (by repeat (first | (with_reducible first | exact HB.out | apply below_alloc | apply pw_below_drewN | apply below_drew1) | exact HB.out))); (case aF => exact (fun k_ hk => Kd.fresh' (Kd.R_lt (by (with_reducible repeat (first | apply Kd.R_alloc | apply Kd.R_drewN | apply Kd.R_drew)); exact HO_3.out)) k_ hk)); (case aO => exact (by (with_reducible repeat (first | apply Kd.R_alloc | apply Kd.R_drewN | apply Kd.R_drew)); exact HO_8.out)); (case aS => exact (below_size (by repeat (first | (with_reducible first | exact HB.out | apply below_alloc | apply pw_below_drewN | apply below_drew1) | exact HB.out)))); (case aL => have := LMc40.out; omega); intro v417 w47 ho hb hg hat; rw [← Ny416.out] at ho; have n0_ := Aside0.mk (Kd.R_after (ok := (fun _ => True)) (by (with_reducible repeat (first | apply Kd.R_alloc | apply Kd.R_drewN | apply Kd.R_drew)); exact Kd.R_mono HO_3.out (fun _ hk => ⟨trivial, hk⟩)) hg hat); have n1_ := Aside0.mk (hb); have n2_ := Aside0.mk (ho); clear HO_3; clear HB; clear HO_8; have HO_3 := n0_; have HB := n1_; have HO418 := n2_; clear n0_ n1_ n2_; clear ho hb hg hat) | (go_at_call 20; (with_reducible refine (code_Best.calls k4 _ _ x3_1 32 t419 t420 t421 _ ?side1 ?side2 A41.out).mono ?_); (case side1 => repeat (first | exact (Kd.R_reads' HO_3.out).2.2 | (with_reducible refine Kd.C_alloc ?_ _) | (with_reducible refine Kd.C_drewN ?_ _) | (with_reducible refine Kd.C_drew ?_))); (case side2 => exact (Kd.R_reads' HO_3.out).2.1); rintro e w48 ⟨v422, rfl, ho0, hb⟩; have n0_ := Aside0.mk (Kd.R_elder' (by (with_reducible repeat (first | apply Kd.R_alloc | apply Kd.R_drewN | apply Kd.R_drew)); exact HO_3.out) (Kd.R_base ho0) hb); have n1_ := Aside0.mk (Kd.R_elder' (by (with_reducible repeat (first | apply Kd.R_alloc | apply Kd.R_drewN | apply Kd.R_drew)); exact HO418.out) (Kd.R_base ho0) hb); have n2_ := Aside0.mk (Kd.R_lower (Kd.R_new' (Kd.R_new' ho0 (Kd.R_lt (by (with_reducible repeat (first | apply Kd.R_alloc | apply Kd.R_drewN | apply Kd.R_drew)); exact HO_3.out))) (Kd.R_lt (by (with_reducible repeat (first | apply Kd.R_alloc | apply Kd.R_drewN | apply Kd.R_drew)); exact HO418.out))) (below_size (by repeat (first | (with_reducible first | exact HB.out | apply below_alloc | apply pw_below_drewN | apply below_drew1) | exact HB.out)))); have n3_ := Aside0.mk (below_step (by repeat (first | (with_reducible first | exact HB.out | apply below_alloc | apply pw_below_drewN | apply below_drew1) | exact HB.out)) hb); clear HO_3; clear HO418; clear HB; have HO_3 := n0_; have HO418 := n1_; have HO423 := n2_; have HB := n3_; clear n0_ n1_ n2_ n3_; (try clear hb); (try clear hb2); (try clear hk); (try clear hi); (try clear ho0); obtain ⟨Ao49, co49, eo49⟩ := Kd.R_slice HO418.out; subst eo49) | (go_at_call 20; (with_reducible refine (code_Best.calls k4 _ _ y416 32 t424 t425 t426 _ ?side1 ?side2 A42.out).mono ?_); (case side1 => repeat (first | exact (Kd.R_reads' HO418.out).2.2 | (with_reducible refine Kd.C_alloc ?_ _) | (with_reducible refine Kd.C_drewN ?_ _) | (with_reducible refine Kd.C_drew ?_))); (case side2 => exact (Kd.R_reads' HO418.out).2.1); rintro e w50 ⟨v427, rfl, ho0, hb⟩; have n0_ := Aside0.mk (Kd.R_elder' (by (with_reducible repeat (first | apply Kd.R_alloc | apply Kd.R_drewN | apply Kd.R_drew)); exact HO_3.out) (Kd.R_base ho0) hb); have n1_ := Aside0.mk (Kd.R_elder' (by (with_reducible repeat (first | apply Kd.R_alloc | apply Kd.R_drewN | apply Kd.R_drew)); exact HO418.out) (Kd.R_base ho0) hb); have n2_ := Aside0.mk (Kd.R_elder' (by (with_reducible repeat (first | apply Kd.R_alloc | apply Kd.R_drewN | apply Kd.R_drew)); exact HO423.out) (Kd.R_base ho0) hb); have n3_ := Aside0.mk (Kd.R_lower (Kd.R_new' (Kd.R_new' (Kd.R_new' ho0 (Kd.R_lt (by (with_reducible repeat (first | apply Kd.R_alloc | apply Kd.R_drewN | apply Kd.R_drew)); exact HO_3.out))) (Kd.R_lt (by (with_reducible repeat (first | apply Kd.R_alloc | apply Kd.R_drewN | apply Kd.R_drew)); exact HO418.out))) (Kd.R_lt (by (with_reducible repeat (first | apply Kd.R_alloc | apply Kd.R_drewN | apply Kd.R_drew)); exact HO423.out))) (below_size (by repeat (first | (with_reducible first | exact HB.out | apply below_alloc | apply pw_below_drewN | apply below_drew1) | exact HB.out)))); have n4_ := Aside0.mk (below_step (by repeat (first | (with_reducible first | exact HB.out | apply below_alloc | apply pw_below_drewN | apply below_drew1) | exact HB.out)) hb); clear HO_3; clear HO418; clear HO423; clear HB; have HO_3 := n0_; have HO418 := n1_; have HO423 := n2_; have HO428 := n3_; have HB := n4_; clear n0_ n1_ n2_ n3_ n4_; (try clear hb); (try clear hb2); (try clear hk); (try clear hi); (try clear ho0)) | (go_at_call 22; (with_reducible refine (turndownlaw06_awake.calls k4  t429 _ A46.out).mono ?_); rintro e w51 ⟨rfl, hb⟩; have n0_ := Aside0.mk (Kd.R_below (by (with_reducible repeat (first | apply Kd.R_alloc | apply Kd.R_drewN | apply Kd.R_drew)); exact HO_3.out) hb); have n1_ := Aside0.mk (Kd.R_below (by (with_reducible repeat (first | apply Kd.R_alloc | apply Kd.R_drewN | apply Kd.R_drew)); exact HO418.out) hb); have n2_ := Aside0.mk (Kd.R_below (by (with_reducible repeat (first | apply Kd.R_alloc | apply Kd.R_drewN | apply Kd.R_drew)); exact HO423.out) hb); have n3_ := Aside0.mk (Kd.R_below (by (with_reducible repeat (first | apply Kd.R_alloc | apply Kd.R_drewN | apply Kd.R_drew)); exact HO428.out) hb); have n4_ := Aside0.mk (below_step (by repeat (first | (with_reducible first | exact HB.out | apply below_alloc | apply pw_below_drewN | apply below_drew1) | exact HB.out)) hb); clear HO_3; clear HO418; clear HO423; clear HO428; clear HB; have HO_3 := n0_; have HO418 := n1_; have HO423 := n2_; have HO428 := n3_; have HB := n4_; clear n0_ n1_ n2_ n3_ n4_; (try clear hb); (try clear hb2); (try clear hk); (try clear hi))))
                         go_ret
                         exact ⟨by first | rfl | (simp [errW_none, errW_some] <;> rfl) | (simp [*, errW_none, errW_some] <;> rfl), by repeat (first | (with_reducible first | exact HB.out | apply below_alloc | apply pw_below_drewN | apply below_drew1) | exact HB.out)⟩
                        ·
                         rw [if_neg c45] at H
                         have c45b0 : (t420 == (wrap64 (t425 + (wrap64 ((rd x3_1 x4_3) + (rd x3_1 x5_3)))))) = false := beq_eq_false_iff_ne.mpr c45
                         have c45b1 : (t420 != (wrap64 (t425 + (wrap64 ((rd x3_1 x4_3) + (rd x3_1 x5_3)))))) = true := bne_iff_ne.mpr c45
                         obtain rfl := Option.some.inj H
                         have p414 : 0 ≤ (x4_3 : Int) := of_decide_eq_true (by first | (with_reducible assumption) | assumption)
                         have q414 : x4_3 < (x3_1.length : Int) := of_decide_eq_true (by first | (with_reducible assumption) | assumption)
                         obtain ⟨ad414, e414, hx414_0⟩ := Kd.at_int (Kd.R_reads' HO_3.out).2.2 x4_3 p414 q414
                         obtain rfl : ad404 = ad414 := (by injection e414)
                         replace p414 := eq_true p414
                         replace q414 := eq_true q414
                         have p415 : 0 ≤ (x5_3 : Int) := of_decide_eq_true (by first | (with_reducible assumption) | assumption)
                         have q415 : x5_3 < (x3_1.length : Int) := of_decide_eq_true (by first | (with_reducible assumption) | assumption)
                         obtain ⟨ad415, e415, hx415_0⟩ := Kd.at_int (Kd.R_reads' HO_3.out).2.2 x5_3 p415 q415
                         obtain rfl : ad404 = ad415 := (by injection e415)
                         replace p415 := eq_true p415
                         replace q415 := eq_true q415
                         go_wp2_with (first | ((with_reducible refine gate_builtin (b := .append) (xs := #[.tmp 103, .tmp 105]) rfl ?_); at_builtin; refine Kd.R_append (Kd.int .i64) (w0 := w) w.heap.size rfl (.tmp 103) (.tmp 105) 22 3 (.int .i64 0) 8 rfl Try.underlying22 info3 rfl (by decide) (by omega) u8 x8_4 (wrap64 ((rd x3_1 x4_3) + (rd x3_1 x5_3))) [.int .i64 (wrap64 ((rd x3_1 x4_3) + (rd x3_1 x5_3)))] (fun k_ => some k_ ≠ (.slice (some ad404) x3_1.length co9 : Value).ownBlock) (fun _ => False) rfl rfl ?aP (fun _ hk => hk.elim) ?aF ?aO ?aB ?aS ?aL ?_; (case aP => exact rfl); (case aB => exact (by repeat (first | (with_reducible first | exact HB.out | apply below_alloc | apply pw_below_drewN | apply below_drew1) | exact HB.out))); (case aF => exact (fun k_ hk => Kd.fresh' (Kd.R_lt (by (with_reducible repeat (first | apply Kd.R_alloc | apply Kd.R_drewN | apply Kd.R_drew)); exact HO_3.out)) k_ hk)); (case aO => exact (by (with_reducible repeat (first | apply Kd.R_alloc | apply Kd.R_drewN | apply Kd.R_drew)); exact HO_8.out)); (case aS => exact (below_size (by repeat (first | (with_reducible first | exact HB.out | apply below_alloc | apply pw_below_drewN | apply below_drew1) | exact HB.out)))); (case aL => have := LMc40.out; omega); intro v417 w52 ho hb hg hat; rw [← Ny416.out] at ho; have n0_ := Aside0.mk (Kd.R_after (ok := (fun _ => True)) (by (with_reducible repeat (first | apply Kd.R_alloc | apply Kd.R_drewN | apply Kd.R_drew)); exact Kd.R_mono HO_3.out (fun _ hk => ⟨trivial, hk⟩)) hg hat); have n1_ := Aside0.mk (hb); have n2_ := Aside0.mk (ho); clear HO_3; clear HB; clear HO_8; have HO_3 := n0_; have HB := n1_; have HO418 := n2_; clear n0_ n1_ n2_; clear ho hb hg hat) | (go_at_call 20; (with_reducible refine (code_Best.calls k4 _ _ x3_1 32 t419 t420 t421 _ ?side1 ?side2 A41.out).mono ?_); (case side1 => repeat (first | exact (Kd.R_reads' HO_3.out).2.2 | (with_reducible refine Kd.C_alloc ?_ _) | (with_reducible refine Kd.C_drewN ?_ _) | (with_reducible refine Kd.C_drew ?_))); (case side2 => exact (Kd.R_reads' HO_3.out).2.1); rintro e w53 ⟨v422, rfl, ho0, hb⟩; have n0_ := Aside0.mk (Kd.R_elder' (by (with_reducible repeat (first | apply Kd.R_alloc | apply Kd.R_drewN | apply Kd.R_drew)); exact HO_3.out) (Kd.R_base ho0) hb); have n1_ := Aside0.mk (Kd.R_elder' (by (with_reducible repeat (first | apply Kd.R_alloc | apply Kd.R_drewN | apply Kd.R_drew)); exact HO418.out) (Kd.R_base ho0) hb); have n2_ := Aside0.mk (Kd.R_lower (Kd.R_new' (Kd.R_new' ho0 (Kd.R_lt (by (with_reducible repeat (first | apply Kd.R_alloc | apply Kd.R_drewN | apply Kd.R_drew)); exact HO_3.out))) (Kd.R_lt (by (with_reducible repeat (first | apply Kd.R_alloc | apply Kd.R_drewN | apply Kd.R_drew)); exact HO418.out))) (below_size (by repeat (first | (with_reducible first | exact HB.out | apply below_alloc | apply pw_below_drewN | apply below_drew1) | exact HB.out)))); have n3_ := Aside0.mk (below_step (by repeat (first | (with_reducible first | exact HB.out | apply below_alloc | apply pw_below_drewN | apply below_drew1) | exact HB.out)) hb); clear HO_3; clear HO418; clear HB; have HO_3 := n0_; have HO418 := n1_; have HO423 := n2_; have HB := n3_; clear n0_ n1_ n2_ n3_; (try clear hb); (try clear hb2); (try clear hk); (try clear hi); (try clear ho0); obtain ⟨Ao54, co54, eo54⟩ := Kd.R_slice HO418.out; subst eo54) | (go_at_call 20; (with_reducible refine (code_Best.calls k4 _ _ y416 32 t424 t425 t426 _ ?side1 ?side2 A42.out).mono ?_); (case side1 => repeat (first | exact (Kd.R_reads' HO418.out).2.2 | (with_reducible refine Kd.C_alloc ?_ _) | (with_reducible refine Kd.C_drewN ?_ _) | (with_reducible refine Kd.C_drew ?_))); (case side2 => exact (Kd.R_reads' HO418.out).2.1); rintro e w55 ⟨v427, rfl, ho0, hb⟩; have n0_ := Aside0.mk (Kd.R_elder' (by (with_reducible repeat (first | apply Kd.R_alloc | apply Kd.R_drewN | apply Kd.R_drew)); exact HO_3.out) (Kd.R_base ho0) hb); have n1_ := Aside0.mk (Kd.R_elder' (by (with_reducible repeat (first | apply Kd.R_alloc | apply Kd.R_drewN | apply Kd.R_drew)); exact HO418.out) (Kd.R_base ho0) hb); have n2_ := Aside0.mk (Kd.R_elder' (by (with_reducible repeat (first | apply Kd.R_alloc | apply Kd.R_drewN | apply Kd.R_drew)); exact HO423.out) (Kd.R_base ho0) hb); have n3_ := Aside0.mk (Kd.R_lower (Kd.R_new' (Kd.R_new' (Kd.R_new' ho0 (Kd.R_lt (by (with_reducible repeat (first | apply Kd.R_alloc | apply Kd.R_drewN | apply Kd.R_drew)); exact HO_3.out))) (Kd.R_lt (by (with_reducible repeat (first | apply Kd.R_alloc | apply Kd.R_drewN | apply Kd.R_drew)); exact HO418.out))) (Kd.R_lt (by (with_reducible repeat (first | apply Kd.R_alloc | apply Kd.R_drewN | apply Kd.R_drew)); exact HO423.out))) (below_size (by repeat (first | (with_reducible first | exact HB.out | apply below_alloc | apply pw_below_drewN | apply below_drew1) | exact HB.out)))); have n4_ := Aside0.mk (below_step (by repeat (first | (with_reducible first | exact HB.out | apply below_alloc | apply pw_below_drewN | apply below_drew1) | exact HB.out)) hb); clear HO_3; clear HO418; clear HO423; clear HB; have HO_3 := n0_; have HO418 := n1_; have HO423 := n2_; have HO428 := n3_; have HB := n4_; clear n0_ n1_ n2_ n3_ n4_; (try clear hb); (try clear hb2); (try clear hk); (try clear hi); (try clear ho0)))
                         repeat (go_quiet (first | ((with_reducible refine gate_builtin (b := .append) (xs := #[.tmp 103, .tmp 105]) rfl ?_); at_builtin; refine Kd.R_append (Kd.int .i64) (w0 := w) w.heap.size rfl (.tmp 103) (.tmp 105) 22 3 (.int .i64 0) 8 rfl Try.underlying22 info3 rfl (by decide) (by omega) u8 x8_4 (wrap64 ((rd x3_1 x4_3) + (rd x3_1 x5_3))) [.int .i64 (wrap64 ((rd x3_1 x4_3) + (rd x3_1 x5_3)))] (fun k_ => some k_ ≠ (.slice (some ad404) x3_1.length co9 : Value).ownBlock) (fun _ => False) rfl rfl ?aP (fun _ hk => hk.elim) ?aF ?aO ?aB ?aS ?aL ?_; (case aP => exact rfl); (case aB => exact (by repeat (first | (with_reducible first | exact HB.out | apply below_alloc | apply pw_below_drewN | apply below_drew1) | exact HB.out))); (case aF => exact (fun k_ hk => Kd.fresh' (Kd.R_lt (by (with_reducible repeat (first | apply Kd.R_alloc | apply Kd.R_drewN | apply Kd.R_drew)); exact HO_3.out)) k_ hk)); (case aO => exact (by (with_reducible repeat (first | apply Kd.R_alloc | apply Kd.R_drewN | apply Kd.R_drew)); exact HO_8.out)); (case aS => exact (below_size (by repeat (first | (with_reducible first | exact HB.out | apply below_alloc | apply pw_below_drewN | apply below_drew1) | exact HB.out)))); (case aL => have := LMc40.out; omega); intro v417 w52 ho hb hg hat; rw [← Ny416.out] at ho; have n0_ := Aside0.mk (Kd.R_after (ok := (fun _ => True)) (by (with_reducible repeat (first | apply Kd.R_alloc | apply Kd.R_drewN | apply Kd.R_drew)); exact Kd.R_mono HO_3.out (fun _ hk => ⟨trivial, hk⟩)) hg hat); have n1_ := Aside0.mk (hb); have n2_ := Aside0.mk (ho); clear HO_3; clear HB; clear HO_8; have HO_3 := n0_; have HB := n1_; have HO418 := n2_; clear n0_ n1_ n2_; clear ho hb hg hat) | (go_at_call 20; (with_reducible refine (code_Best.calls k4 _ _ x3_1 32 t419 t420 t421 _ ?side1 ?side2 A41.out).mono ?_); (case side1 => repeat (first | exact (Kd.R_reads' HO_3.out).2.2 | (with_reducible refine Kd.C_alloc ?_ _) | (with_reducible refine Kd.C_drewN ?_ _) | (with_reducible refine Kd.C_drew ?_))); (case side2 => exact (Kd.R_reads' HO_3.out).2.1); rintro e w53 ⟨v422, rfl, ho0, hb⟩; have n0_ := Aside0.mk (Kd.R_elder' (by (with_reducible repeat (first | apply Kd.R_alloc | apply Kd.R_drewN | apply Kd.R_drew)); exact HO_3.out) (Kd.R_base ho0) hb); have n1_ := Aside0.mk (Kd.R_elder' (by (with_reducible repeat (first | apply Kd.R_alloc | apply Kd.R_drewN | apply Kd.R_drew)); exact HO418.out) (Kd.R_base ho0) hb); have n2_ := Aside0.mk (Kd.R_lower (Kd.R_new' (Kd.R_new' ho0 (Kd.R_lt (by (with_reducible repeat (first | apply Kd.R_alloc | apply Kd.R_drewN | apply Kd.R_drew)); exact HO_3.out))) (Kd.R_lt (by (with_reducible repeat (first | apply Kd.R_alloc | apply Kd.R_drewN | apply Kd.R_drew)); exact HO418.out))) (below_size (by repeat (first | (with_reducible first | exact HB.out | apply below_alloc | apply pw_below_drewN | apply below_drew1) | exact HB.out)))); have n3_ := Aside0.mk (below_step (by repeat (first | (with_reducible first | exact HB.out | apply below_alloc | apply pw_below_drewN | apply below_drew1) | exact HB.out)) hb); clear HO_3; clear HO418; clear HB; have HO_3 := n0_; have HO418 := n1_; have HO423 := n2_; have HB := n3_; clear n0_ n1_ n2_ n3_; (try clear hb); (try clear hb2); (try clear hk); (try clear hi); (try clear ho0); obtain ⟨Ao54, co54, eo54⟩ := Kd.R_slice HO418.out; subst eo54) | (go_at_call 20; (with_reducible refine (code_Best.calls k4 _ _ y416 32 t424 t425 t426 _ ?side1 ?side2 A42.out).mono ?_); (case side1 => repeat (first | exact (Kd.R_reads' HO418.out).2.2 | (with_reducible refine Kd.C_alloc ?_ _) | (with_reducible refine Kd.C_drewN ?_ _) | (with_reducible refine Kd.C_drew ?_))); (case side2 => exact (Kd.R_reads' HO418.out).2.1); rintro e w55 ⟨v427, rfl, ho0, hb⟩; have n0_ := Aside0.mk (Kd.R_elder' (by (with_reducible repeat (first | apply Kd.R_alloc | apply Kd.R_drewN | apply Kd.R_drew)); exact HO_3.out) (Kd.R_base ho0) hb); have n1_ := Aside0.mk (Kd.R_elder' (by (with_reducible repeat (first | apply Kd.R_alloc | apply Kd.R_drewN | apply Kd.R_drew)); exact HO418.out) (Kd.R_base ho0) hb); have n2_ := Aside0.mk (Kd.R_elder' (by (with_reducible repeat (first | apply Kd.R_alloc | apply Kd.R_drewN | apply Kd.R_drew)); exact HO423.out) (Kd.R_base ho0) hb); have n3_ := Aside0.mk (Kd.R_lower (Kd.R_new' (Kd.R_new' (Kd.R_new' ho0 (Kd.R_lt (by (with_reducible repeat (first | apply Kd.R_alloc | apply Kd.R_drewN | apply Kd.R_drew)); exact HO_3.out))) (Kd.R_lt (by (with_reducible repeat (first | apply Kd.R_alloc | apply Kd.R_drewN | apply Kd.R_drew)); exact HO418.out))) (Kd.R_lt (by (with_reducible repeat (first | apply Kd.R_alloc | apply Kd.R_drewN | apply Kd.R_drew)); exact HO423.out))) (below_size (by repeat (first | (with_reducible first | exact HB.out | apply below_alloc | apply pw_below_drewN | apply below_drew1) | exact HB.out)))); have n4_ := Aside0.mk (below_step (by repeat (first | (with_reducible first | exact HB.out | apply below_alloc | apply pw_below_drewN | apply below_drew1) | exact HB.out)) hb); clear HO_3; clear HO418; clear HO423; clear HB; have HO_3 := n0_; have HO418 := n1_; have HO423 := n2_; have HO428 := n3_; have HB := n4_; clear n0_ n1_ n2_ n3_ n4_; (try clear hb); (try clear hb2); (try clear hk); (try clear hi); (try clear ho0))); try go_wp2_with (first | ((with_reducible refine gate_builtin (b := .append) (xs := #[.tmp 103, .tmp 105]) rfl ?_); at_builtin; refine Kd.R_append (Kd.int .i64) (w0 := w) w.heap.size rfl (.tmp 103) (.tmp 105) 22 3 (.int .i64 0) 8 rfl Try.underlying22 info3 rfl (by decide) (by omega) u8 x8_4 (wrap64 ((rd x3_1 x4_3) + (rd x3_1 x5_3))) [.int .i64 (wrap64 ((rd x3_1 x4_3) + (rd x3_1 x5_3)))] (fun k_ => some k_ ≠ (.slice (some ad404) x3_1.length co9 : Value).ownBlock) (fun _ => False) rfl rfl ?aP (fun _ hk => hk.elim) ?aF ?aO ?aB ?aS ?aL ?_; (case aP => exact rfl); (case aB => exact (by repeat (first | (with_reducible first | exact HB.out | apply below_alloc | apply pw_below_drewN | apply below_drew1) | exact HB.out))); (case aF => exact (fun k_ hk => Kd.fresh' (Kd.R_lt (by (with_reducible repeat (first | apply Kd.R_alloc | apply Kd.R_drewN | apply Kd.R_drew)); exact HO_3.out)) k_ hk)); (case aO => exact (by (with_reducible repeat (first | apply Kd.R_alloc | apply Kd.R_drewN | apply Kd.R_drew)); exact HO_8.out)); (case aS => exact (below_size (by repeat (first | (with_reducible first | exact HB.out | apply below_alloc | apply pw_below_drewN | apply below_drew1) | exact HB.out)))); (case aL => have := LMc40.out; omega); intro v417 w52 ho hb hg hat; rw [← Ny416.out] at ho; have n0_ := Aside0.mk (Kd.R_after (ok := (fun _ => True)) (by (with_reducible repeat (first | apply Kd.R_alloc | apply Kd.R_drewN | apply Kd.R_drew)); exact Kd.R_mono HO_3.out (fun _ hk => ⟨trivial, hk⟩)) hg hat); have n1_ := Aside0.mk (hb); have n2_ := Aside0.mk (ho); clear HO_3; clear HB; clear HO_8; have HO_3 := n0_; have HB := n1_; have HO418 := n2_; clear n0_ n1_ n2_; clear ho hb hg hat) | (go_at_call 20; (with_reducible refine (code_Best.calls k4 _ _ x3_1 32 t419 t420 t421 _ ?side1 ?side2 A41.out).mono ?_); (case side1 => repeat (first | exact (Kd.R_reads' HO_3.out).2.2 | (with_reducible refine Kd.C_alloc ?_ _) | (with_reducible refine Kd.C_drewN ?_ _) | (with_reducible refine Kd.C_drew ?_))); (case side2 => exact (Kd.R_reads' HO_3.out).2.1); rintro e w53 ⟨v422, rfl, ho0, hb⟩; have n0_ := Aside0.mk (Kd.R_elder' (by (with_reducible repeat (first | apply Kd.R_alloc | apply Kd.R_drewN | apply Kd.R_drew)); exact HO_3.out) (Kd.R_base ho0) hb); have n1_ := Aside0.mk (Kd.R_elder' (by (with_reducible repeat (first | apply Kd.R_alloc | apply Kd.R_drewN | apply Kd.R_drew)); exact HO418.out) (Kd.R_base ho0) hb); have n2_ := Aside0.mk (Kd.R_lower (Kd.R_new' (Kd.R_new' ho0 (Kd.R_lt (by (with_reducible repeat (first | apply Kd.R_alloc | apply Kd.R_drewN | apply Kd.R_drew)); exact HO_3.out))) (Kd.R_lt (by (with_reducible repeat (first | apply Kd.R_alloc | apply Kd.R_drewN | apply Kd.R_drew)); exact HO418.out))) (below_size (by repeat (first | (with_reducible first | exact HB.out | apply below_alloc | apply pw_below_drewN | apply below_drew1) | exact HB.out)))); have n3_ := Aside0.mk (below_step (by repeat (first | (with_reducible first | exact HB.out | apply below_alloc | apply pw_below_drewN | apply below_drew1) | exact HB.out)) hb); clear HO_3; clear HO418; clear HB; have HO_3 := n0_; have HO418 := n1_; have HO423 := n2_; have HB := n3_; clear n0_ n1_ n2_ n3_; (try clear hb); (try clear hb2); (try clear hk); (try clear hi); (try clear ho0); obtain ⟨Ao54, co54, eo54⟩ := Kd.R_slice HO418.out; subst eo54) | (go_at_call 20; (with_reducible refine (code_Best.calls k4 _ _ y416 32 t424 t425 t426 _ ?side1 ?side2 A42.out).mono ?_); (case side1 => repeat (first | exact (Kd.R_reads' HO418.out).2.2 | (with_reducible refine Kd.C_alloc ?_ _) | (with_reducible refine Kd.C_drewN ?_ _) | (with_reducible refine Kd.C_drew ?_))); (case side2 => exact (Kd.R_reads' HO418.out).2.1); rintro e w55 ⟨v427, rfl, ho0, hb⟩; have n0_ := Aside0.mk (Kd.R_elder' (by (with_reducible repeat (first | apply Kd.R_alloc | apply Kd.R_drewN | apply Kd.R_drew)); exact HO_3.out) (Kd.R_base ho0) hb); have n1_ := Aside0.mk (Kd.R_elder' (by (with_reducible repeat (first | apply Kd.R_alloc | apply Kd.R_drewN | apply Kd.R_drew)); exact HO418.out) (Kd.R_base ho0) hb); have n2_ := Aside0.mk (Kd.R_elder' (by (with_reducible repeat (first | apply Kd.R_alloc | apply Kd.R_drewN | apply Kd.R_drew)); exact HO423.out) (Kd.R_base ho0) hb); have n3_ := Aside0.mk (Kd.R_lower (Kd.R_new' (Kd.R_new' (Kd.R_new' ho0 (Kd.R_lt (by (with_reducible repeat (first | apply Kd.R_alloc | apply Kd.R_drewN | apply Kd.R_drew)); exact HO_3.out))) (Kd.R_lt (by (with_reducible repeat (first | apply Kd.R_alloc | apply Kd.R_drewN | apply Kd.R_drew)); exact HO418.out))) (Kd.R_lt (by (with_reducible repeat (first | apply Kd.R_alloc | apply Kd.R_drewN | apply Kd.R_drew)); exact HO423.out))) (below_size (by repeat (first | (with_reducible first | exact HB.out | apply below_alloc | apply pw_below_drewN | apply below_drew1) | exact HB.out)))); have n4_ := Aside0.mk (below_step (by repeat (first | (with_reducible first | exact HB.out | apply below_alloc | apply pw_below_drewN | apply below_drew1) | exact HB.out)) hb); clear HO_3; clear HO418; clear HO423; clear HB; have HO_3 := n0_; have HO418 := n1_; have HO423 := n2_; have HO428 := n3_; have HB := n4_; clear n0_ n1_ n2_ n3_ n4_; (try clear hb); (try clear hb2); (try clear hk); (try clear hi); (try clear ho0))))
                         go_ret
                         exact ⟨by first | rfl | (simp [errW_none, errW_some] <;> rfl) | (simp [*, errW_none, errW_some] <;> rfl), by repeat (first | (with_reducible first | exact HB.out | apply below_alloc | apply pw_below_drewN | apply below_drew1) | exact HB.out)⟩
                       ·
                        rw [if_neg c44] at H
                        have c44b0 : (t426 == 0) = false := beq_eq_false_iff_ne.mpr c44
                        have c44b1 : (t426 != 0) = true := bne_iff_ne.mpr c44
                        obtain rfl := Option.some.inj H
                        have p414 : 0 ≤ (x4_3 : Int) := of_decide_eq_true (by first | (with_reducible assumption) | assumption)
                        have q414 : x4_3 < (x3_1.length : Int) := of_decide_eq_true (by first | (with_reducible assumption) | assumption)
                        obtain ⟨ad414, e414, hx414_0⟩ := Kd.at_int (Kd.R_reads' HO_3.out).2.2 x4_3 p414 q414
                        obtain rfl : ad404 = ad414 := (by injection e414)
                        replace p414 := eq_true p414
                        replace q414 := eq_true q414
                        have p415 : 0 ≤ (x5_3 : Int) := of_decide_eq_true (by first | (with_reducible assumption) | assumption)
                        have q415 : x5_3 < (x3_1.length : Int) := of_decide_eq_true (by first | (with_reducible assumption) | assumption)
                        obtain ⟨ad415, e415, hx415_0⟩ := Kd.at_int (Kd.R_reads' HO_3.out).2.2 x5_3 p415 q415
                        obtain rfl : ad404 = ad415 := (by injection e415)
                        replace p415 := eq_true p415
                        replace q415 := eq_true q415
                        go_wp2_with (first | ((with_reducible refine gate_builtin (b := .append) (xs := #[.tmp 103, .tmp 105]) rfl ?_); at_builtin; refine Kd.R_append (Kd.int .i64) (w0 := w) w.heap.size rfl (.tmp 103) (.tmp 105) 22 3 (.int .i64 0) 8 rfl Try.underlying22 info3 rfl (by decide) (by omega) u8 x8_4 (wrap64 ((rd x3_1 x4_3) + (rd x3_1 x5_3))) [.int .i64 (wrap64 ((rd x3_1 x4_3) + (rd x3_1 x5_3)))] (fun k_ => some k_ ≠ (.slice (some ad404) x3_1.length co9 : Value).ownBlock) (fun _ => False) rfl rfl ?aP (fun _ hk => hk.elim) ?aF ?aO ?aB ?aS ?aL ?_; (case aP => exact rfl); (case aB => exact (by repeat (first | (with_reducible first | exact HB.out | apply below_alloc | apply pw_below_drewN | apply below_drew1) | exact HB.out))); (case aF => exact (fun k_ hk => Kd.fresh' (Kd.R_lt (by (with_reducible repeat (first | apply Kd.R_alloc | apply Kd.R_drewN | apply Kd.R_drew)); exact HO_3.out)) k_ hk)); (case aO => exact (by (with_reducible repeat (first | apply Kd.R_alloc | apply Kd.R_drewN | apply Kd.R_drew)); exact HO_8.out)); (case aS => exact (below_size (by repeat (first | (with_reducible first | exact HB.out | apply below_alloc | apply pw_below_drewN | apply below_drew1) | exact HB.out)))); (case aL => have := LMc40.out; omega); intro v417 w56 ho hb hg hat; rw [← Ny416.out] at ho; have n0_ := Aside0.mk (Kd.R_after (ok := (fun _ => True)) (by (with_reducible repeat (first | apply Kd.R_alloc | apply Kd.R_drewN | apply Kd.R_drew)); exact Kd.R_mono HO_3.out (fun _ hk => ⟨trivial, hk⟩)) hg hat); have n1_ := Aside0.mk (hb); have n2_ := Aside0.mk (ho); clear HO_3; clear HB; clear HO_8; have HO_3 := n0_; have HB := n1_; have HO418 := n2_; clear n0_ n1_ n2_; clear ho hb hg hat) | (go_at_call 20; (with_reducible refine (code_Best.calls k4 _ _ x3_1 32 t419 t420 t421 _ ?side1 ?side2 A41.out).mono ?_); (case side1 => repeat (first | exact (Kd.R_reads' HO_3.out).2.2 | (with_reducible refine Kd.C_alloc ?_ _) | (with_reducible refine Kd.C_drewN ?_ _) | (with_reducible refine Kd.C_drew ?_))); (case side2 => exact (Kd.R_reads' HO_3.out).2.1); rintro e w57 ⟨v422, rfl, ho0, hb⟩; have n0_ := Aside0.mk (Kd.R_elder' (by (with_reducible repeat (first | apply Kd.R_alloc | apply Kd.R_drewN | apply Kd.R_drew)); exact HO_3.out) (Kd.R_base ho0) hb); have n1_ := Aside0.mk (Kd.R_elder' (by (with_reducible repeat (first | apply Kd.R_alloc | apply Kd.R_drewN | apply Kd.R_drew)); exact HO418.out) (Kd.R_base ho0) hb); have n2_ := Aside0.mk (Kd.R_lower (Kd.R_new' (Kd.R_new' ho0 (Kd.R_lt (by (with_reducible repeat (first | apply Kd.R_alloc | apply Kd.R_drewN | apply Kd.R_drew)); exact HO_3.out))) (Kd.R_lt (by (with_reducible repeat (first | apply Kd.R_alloc | apply Kd.R_drewN | apply Kd.R_drew)); exact HO418.out))) (below_size (by repeat (first | (with_reducible first | exact HB.out | apply below_alloc | apply pw_below_drewN | apply below_drew1) | exact HB.out)))); have n3_ := Aside0.mk (below_step (by repeat (first | (with_reducible first | exact HB.out | apply below_alloc | apply pw_below_drewN | apply below_drew1) | exact HB.out)) hb); clear HO_3; clear HO418; clear HB; have HO_3 := n0_; have HO418 := n1_; have HO423 := n2_; have HB := n3_; clear n0_ n1_ n2_ n3_; (try clear hb); (try clear hb2); (try clear hk); (try clear hi); (try clear ho0); obtain ⟨Ao58, co58, eo58⟩ := Kd.R_slice HO418.out; subst eo58) | (go_at_call 20; (with_reducible refine (code_Best.calls k4 _ _ y416 32 t424 t425 t426 _ ?side1 ?side2 A42.out).mono ?_); (case side1 => repeat (first | exact (Kd.R_reads' HO418.out).2.2 | (with_reducible refine Kd.C_alloc ?_ _) | (with_reducible refine Kd.C_drewN ?_ _) | (with_reducible refine Kd.C_drew ?_))); (case side2 => exact (Kd.R_reads' HO418.out).2.1); rintro e w59 ⟨v427, rfl, ho0, hb⟩; have n0_ := Aside0.mk (Kd.R_elder' (by (with_reducible repeat (first | apply Kd.R_alloc | apply Kd.R_drewN | apply Kd.R_drew)); exact HO_3.out) (Kd.R_base ho0) hb); have n1_ := Aside0.mk (Kd.R_elder' (by (with_reducible repeat (first | apply Kd.R_alloc | apply Kd.R_drewN | apply Kd.R_drew)); exact HO418.out) (Kd.R_base ho0) hb); have n2_ := Aside0.mk (Kd.R_elder' (by (with_reducible repeat (first | apply Kd.R_alloc | apply Kd.R_drewN | apply Kd.R_drew)); exact HO423.out) (Kd.R_base ho0) hb); have n3_ := Aside0.mk (Kd.R_lower (Kd.R_new' (Kd.R_new' (Kd.R_new' ho0 (Kd.R_lt (by (with_reducible repeat (first | apply Kd.R_alloc | apply Kd.R_drewN | apply Kd.R_drew)); exact HO_3.out))) (Kd.R_lt (by (with_reducible repeat (first | apply Kd.R_alloc | apply Kd.R_drewN | apply Kd.R_drew)); exact HO418.out))) (Kd.R_lt (by (with_reducible repeat (first | apply Kd.R_alloc | apply Kd.R_drewN | apply Kd.R_drew)); exact HO423.out))) (below_size (by repeat (first | (with_reducible first | exact HB.out | apply below_alloc | apply pw_below_drewN | apply below_drew1) | exact HB.out)))); have n4_ := Aside0.mk (below_step (by repeat (first | (with_reducible first | exact HB.out | apply below_alloc | apply pw_below_drewN | apply below_drew1) | exact HB.out)) hb); clear HO_3; clear HO418; clear HO423; clear HB; have HO_3 := n0_; have HO418 := n1_; have HO423 := n2_; have HO428 := n3_; have HB := n4_; clear n0_ n1_ n2_ n3_ n4_; (try clear hb); (try clear hb2); (try clear hk); (try clear hi); (try clear ho0)))
                        repeat (go_quiet (first | ((with_reducible refine gate_builtin (b := .append) (xs := #[.tmp 103, .tmp 105]) rfl ?_); at_builtin; refine Kd.R_append (Kd.int .i64) (w0 := w) w.heap.size rfl (.tmp 103) (.tmp 105) 22 3 (.int .i64 0) 8 rfl Try.underlying22 info3 rfl (by decide) (by omega) u8 x8_4 (wrap64 ((rd x3_1 x4_3) + (rd x3_1 x5_3))) [.int .i64 (wrap64 ((rd x3_1 x4_3) + (rd x3_1 x5_3)))] (fun k_ => some k_ ≠ (.slice (some ad404) x3_1.length co9 : Value).ownBlock) (fun _ => False) rfl rfl ?aP (fun _ hk => hk.elim) ?aF ?aO ?aB ?aS ?aL ?_; (case aP => exact rfl); (case aB => exact (by repeat (first | (with_reducible first | exact HB.out | apply below_alloc | apply pw_below_drewN | apply below_drew1) | exact HB.out))); (case aF => exact (fun k_ hk => Kd.fresh' (Kd.R_lt (by (with_reducible repeat (first | apply Kd.R_alloc | apply Kd.R_drewN | apply Kd.R_drew)); exact HO_3.out)) k_ hk)); (case aO => exact (by (with_reducible repeat (first | apply Kd.R_alloc | apply Kd.R_drewN | apply Kd.R_drew)); exact HO_8.out)); (case aS => exact (below_size (by repeat (first | (with_reducible first | exact HB.out | apply below_alloc | apply pw_below_drewN | apply below_drew1) | exact HB.out)))); (case aL => have := LMc40.out; omega); intro v417 w56 ho hb hg hat; rw [← Ny416.out] at ho; have n0_ := Aside0.mk (Kd.R_after (ok := (fun _ => True)) (by (with_reducible repeat (first | apply Kd.R_alloc | apply Kd.R_drewN | apply Kd.R_drew)); exact Kd.R_mono HO_3.out (fun _ hk => ⟨trivial, hk⟩)) hg hat); have n1_ := Aside0.mk (hb); have n2_ := Aside0.mk (ho); clear HO_3; clear HB; clear HO_8; have HO_3 := n0_; have HB := n1_; have HO418 := n2_; clear n0_ n1_ n2_; clear ho hb hg hat) | (go_at_call 20; (with_reducible refine (code_Best.calls k4 _ _ x3_1 32 t419 t420 t421 _ ?side1 ?side2 A41.out).mono ?_); (case side1 => repeat (first | exact (Kd.R_reads' HO_3.out).2.2 | (with_reducible refine Kd.C_alloc ?_ _) | (with_reducible refine Kd.C_drewN ?_ _) | (with_reducible refine Kd.C_drew ?_))); (case side2 => exact (Kd.R_reads' HO_3.out).2.1); rintro e w57 ⟨v422, rfl, ho0, hb⟩; have n0_ := Aside0.mk (Kd.R_elder' (by (with_reducible repeat (first | apply Kd.R_alloc | apply Kd.R_drewN | apply Kd.R_drew)); exact HO_3.out) (Kd.R_base ho0) hb); have n1_ := Aside0.mk (Kd.R_elder' (by (with_reducible repeat (first | apply Kd.R_alloc | apply Kd.R_drewN | apply Kd.R_drew)); exact HO418.out) (Kd.R_base ho0) hb); have n2_ := Aside0.mk (Kd.R_lower (Kd.R_new' (Kd.R_new' ho0 (Kd.R_lt (by (with_reducible repeat (first | apply Kd.R_alloc | apply Kd.R_drewN | apply Kd.R_drew)); exact HO_3.out))) (Kd.R_lt (by (with_reducible repeat (first | apply Kd.R_alloc | apply Kd.R_drewN | apply Kd.R_drew)); exact HO418.out))) (below_size (by repeat (first | (with_reducible first | exact HB.out | apply below_alloc | apply pw_below_drewN | apply below_drew1) | exact HB.out)))); have n3_ := Aside0.mk (below_step (by repeat (first | (with_reducible first | exact HB.out | apply below_alloc | apply pw_below_drewN | apply below_drew1) | exact HB.out)) hb); clear HO_3; clear HO418; clear HB; have HO_3 := n0_; have HO418 := n1_; have HO423 := n2_; have HB := n3_; clear n0_ n1_ n2_ n3_; (try clear hb); (try clear hb2); (try clear hk); (try clear hi); (try clear ho0); obtain ⟨Ao58, co58, eo58⟩ := Kd.R_slice HO418.out; subst eo58) | (go_at_call 20; (with_reducible refine (code_Best.calls k4 _ _ y416 32 t424 t425 t426 _ ?side1 ?side2 A42.out).mono ?_); (case side1 => repeat (first | exact (Kd.R_reads' HO418.out).2.2 | (with_reducible refine Kd.C_alloc ?_ _) | (with_reducible refine Kd.C_drewN ?_ _) | (with_reducible refine Kd.C_drew ?_))); (case side2 => exact (Kd.R_reads' HO418.out).2.1); rintro e w59 ⟨v427, rfl, ho0, hb⟩; have n0_ := Aside0.mk (Kd.R_elder' (by (with_reducible repeat (first | apply Kd.R_alloc | apply Kd.R_drewN | apply Kd.R_drew)); exact HO_3.out) (Kd.R_base ho0) hb); have n1_ := Aside0.mk (Kd.R_elder' (by (with_reducible repeat (first | apply Kd.R_alloc | apply Kd.R_drewN | apply Kd.R_drew)); exact HO418.out) (Kd.R_base ho0) hb); have n2_ := Aside0.mk (Kd.R_elder' (by (with_reducible repeat (first | apply Kd.R_alloc | apply Kd.R_drewN | apply Kd.R_drew)); exact HO423.out) (Kd.R_base ho0) hb); have n3_ := Aside0.mk (Kd.R_lower (Kd.R_new' (Kd.R_new' (Kd.R_new' ho0 (Kd.R_lt (by (with_reducible repeat (first | apply Kd.R_alloc | apply Kd.R_drewN | apply Kd.R_drew)); exact HO_3.out))) (Kd.R_lt (by (with_reducible repeat (first | apply Kd.R_alloc | apply Kd.R_drewN | apply Kd.R_drew)); exact HO418.out))) (Kd.R_lt (by (with_reducible repeat (first | apply Kd.R_alloc | apply Kd.R_drewN | apply Kd.R_drew)); exact HO423.out))) (below_size (by repeat (first | (with_reducible first | exact HB.out | apply below_alloc | apply pw_below_drewN | apply below_drew1) | exact HB.out)))); have n4_ := Aside0.mk (below_step (by repeat (first | (with_reducible first | exact HB.out | apply below_alloc | apply pw_below_drewN | apply below_drew1) | exact HB.out)) hb); clear HO_3; clear HO418; clear HO423; clear HB; have HO_3 := n0_; have HO418 := n1_; have HO423 := n2_; have HO428 := n3_; have HB := n4_; clear n0_ n1_ n2_ n3_ n4_; (try clear hb); (try clear hb2); (try clear hk); (try clear hi); (try clear ho0))); try go_wp2_with (first | ((with_reducible refine gate_builtin (b := .append) (xs := #[.tmp 103, .tmp 105]) rfl ?_); at_builtin; refine Kd.R_append (Kd.int .i64) (w0 := w) w.heap.size rfl (.tmp 103) (.tmp 105) 22 3 (.int .i64 0) 8 rfl Try.underlying22 info3 rfl (by decide) (by omega) u8 x8_4 (wrap64 ((rd x3_1 x4_3) + (rd x3_1 x5_3))) [.int .i64 (wrap64 ((rd x3_1 x4_3) + (rd x3_1 x5_3)))] (fun k_ => some k_ ≠ (.slice (some ad404) x3_1.length co9 : Value).ownBlock) (fun _ => False) rfl rfl ?aP (fun _ hk => hk.elim) ?aF ?aO ?aB ?aS ?aL ?_; (case aP => exact rfl); (case aB => exact (by repeat (first | (with_reducible first | exact HB.out | apply below_alloc | apply pw_below_drewN | apply below_drew1) | exact HB.out))); (case aF => exact (fun k_ hk => Kd.fresh' (Kd.R_lt (by (with_reducible repeat (first | apply Kd.R_alloc | apply Kd.R_drewN | apply Kd.R_drew)); exact HO_3.out)) k_ hk)); (case aO => exact (by (with_reducible repeat (first | apply Kd.R_alloc | apply Kd.R_drewN | apply Kd.R_drew)); exact HO_8.out)); (case aS => exact (below_size (by repeat (first | (with_reducible first | exact HB.out | apply below_alloc | apply pw_below_drewN | apply below_drew1) | exact HB.out)))); (case aL => have := LMc40.out; omega); intro v417 w56 ho hb hg hat; rw [← Ny416.out] at ho; have n0_ := Aside0.mk (Kd.R_after (ok := (fun _ => True)) (by (with_reducible repeat (first | apply Kd.R_alloc | apply Kd.R_drewN | apply Kd.R_drew)); exact Kd.R_mono HO_3.out (fun _ hk => ⟨trivial, hk⟩)) hg hat); have n1_ := Aside0.mk (hb); have n2_ := Aside0.mk (ho); clear HO_3; clear HB; clear HO_8; have HO_3 := n0_; have HB := n1_; have HO418 := n2_; clear n0_ n1_ n2_; clear ho hb hg hat) | (go_at_call 20; (with_reducible refine (code_Best.calls k4 _ _ x3_1 32 t419 t420 t421 _ ?side1 ?side2 A41.out).mono ?_); (case side1 => repeat (first | exact (Kd.R_reads' HO_3.out).2.2 | (with_reducible refine Kd.C_alloc ?_ _) | (with_reducible refine Kd.C_drewN ?_ _) | (with_reducible refine Kd.C_drew ?_))); (case side2 => exact (Kd.R_reads' HO_3.out).2.1); rintro e w57 ⟨v422, rfl, ho0, hb⟩; have n0_ := Aside0.mk (Kd.R_elder' (by (with_reducible repeat (first | apply Kd.R_alloc | apply Kd.R_drewN | apply Kd.R_drew)); exact HO_3.out) (Kd.R_base ho0) hb); have n1_ := Aside0.mk (Kd.R_elder' (by (with_reducible repeat (first | apply Kd.R_alloc | apply Kd.R_drewN | apply Kd.R_drew)); exact HO418.out) (Kd.R_base ho0) hb); have n2_ := Aside0.mk (Kd.R_lower (Kd.R_new' (Kd.R_new' ho0 (Kd.R_lt (by (with_reducible repeat (first | apply Kd.R_alloc | apply Kd.R_drewN | apply Kd.R_drew)); exact HO_3.out))) (Kd.R_lt (by (with_reducible repeat (first | apply Kd.R_alloc | apply Kd.R_drewN | apply Kd.R_drew)); exact HO418.out))) (below_size (by repeat (first | (with_reducible first | exact HB.out | apply below_alloc | apply pw_below_drewN | apply below_drew1) | exact HB.out)))); have n3_ := Aside0.mk (below_step (by repeat (first | (with_reducible first | exact HB.out | apply below_alloc | apply pw_below_drewN | apply below_drew1) | exact HB.out)) hb); clear HO_3; clear HO418; clear HB; have HO_3 := n0_; have HO418 := n1_; have HO423 := n2_; have HB := n3_; clear n0_ n1_ n2_ n3_; (try clear hb); (try clear hb2); (try clear hk); (try clear hi); (try clear ho0); obtain ⟨Ao58, co58, eo58⟩ := Kd.R_slice HO418.out; subst eo58) | (go_at_call 20; (with_reducible refine (code_Best.calls k4 _ _ y416 32 t424 t425 t426 _ ?side1 ?side2 A42.out).mono ?_); (case side1 => repeat (first | exact (Kd.R_reads' HO418.out).2.2 | (with_reducible refine Kd.C_alloc ?_ _) | (with_reducible refine Kd.C_drewN ?_ _) | (with_reducible refine Kd.C_drew ?_))); (case side2 => exact (Kd.R_reads' HO418.out).2.1); rintro e w59 ⟨v427, rfl, ho0, hb⟩; have n0_ := Aside0.mk (Kd.R_elder' (by (with_reducible repeat (first | apply Kd.R_alloc | apply Kd.R_drewN | apply Kd.R_drew)); exact HO_3.out) (Kd.R_base ho0) hb); have n1_ := Aside0.mk (Kd.R_elder' (by (with_reducible repeat (first | apply Kd.R_alloc | apply Kd.R_drewN | apply Kd.R_drew)); exact HO418.out) (Kd.R_base ho0) hb); have n2_ := Aside0.mk (Kd.R_elder' (by (with_reducible repeat (first | apply Kd.R_alloc | apply Kd.R_drewN | apply Kd.R_drew)); exact HO423.out) (Kd.R_base ho0) hb); have n3_ := Aside0.mk (Kd.R_lower (Kd.R_new' (Kd.R_new' (Kd.R_new' ho0 (Kd.R_lt (by (with_reducible repeat (first | apply Kd.R_alloc | apply Kd.R_drewN | apply Kd.R_drew)); exact HO_3.out))) (Kd.R_lt (by (with_reducible repeat (first | apply Kd.R_alloc | apply Kd.R_drewN | apply Kd.R_drew)); exact HO418.out))) (Kd.R_lt (by (with_reducible repeat (first | apply Kd.R_alloc | apply Kd.R_drewN | apply Kd.R_drew)); exact HO423.out))) (below_size (by repeat (first | (with_reducible first | exact HB.out | apply below_alloc | apply pw_below_drewN | apply below_drew1) | exact HB.out)))); have n4_ := Aside0.mk (below_step (by repeat (first | (with_reducible first | exact HB.out | apply below_alloc | apply pw_below_drewN | apply below_drew1) | exact HB.out)) hb); clear HO_3; clear HO418; clear HO423; clear HB; have HO_3 := n0_; have HO418 := n1_; have HO423 := n2_; have HO428 := n3_; have HB := n4_; clear n0_ n1_ n2_ n3_ n4_; (try clear hb); (try clear hb2); (try clear hk); (try clear hi); (try clear ho0))))
                        go_ret
                        exact ⟨by first | rfl | (simp [errW_none, errW_some] <;> rfl) | (simp [*, errW_none, errW_some] <;> rfl), by repeat (first | (with_reducible first | exact HB.out | apply below_alloc | apply pw_below_drewN | apply below_drew1) | exact HB.out)⟩
                      ·
                       rw [if_neg c43] at H
                       have c43b0 : (t421 == 0) = false := beq_eq_false_iff_ne.mpr c43
                       have c43b1 : (t421 != 0) = true := bne_iff_ne.mpr c43
                       obtain rfl := Option.some.inj H
                       have p414 : 0 ≤ (x4_3 : Int) := of_decide_eq_true (by first | (with_reducible assumption) | assumption)
                       have q414 : x4_3 < (x3_1.length : Int) := of_decide_eq_true (by first | (with_reducible assumption) | assumption)
                       obtain ⟨ad414, e414, hx414_0⟩ := Kd.at_int (Kd.R_reads' HO_3.out).2.2 x4_3 p414 q414
                       obtain rfl : ad404 = ad414 := (by injection e414)
                       replace p414 := eq_true p414
                       replace q414 := eq_true q414
                       have p415 : 0 ≤ (x5_3 : Int) := of_decide_eq_true (by first | (with_reducible assumption) | assumption)
                       have q415 : x5_3 < (x3_1.length : Int) := of_decide_eq_true (by first | (with_reducible assumption) | assumption)
                       obtain ⟨ad415, e415, hx415_0⟩ := Kd.at_int (Kd.R_reads' HO_3.out).2.2 x5_3 p415 q415
                       obtain rfl : ad404 = ad415 := (by injection e415)
                       replace p415 := eq_true p415
                       replace q415 := eq_true q415
                       go_wp2_with (first | ((with_reducible refine gate_builtin (b := .append) (xs := #[.tmp 103, .tmp 105]) rfl ?_); at_builtin; refine Kd.R_append (Kd.int .i64) (w0 := w) w.heap.size rfl (.tmp 103) (.tmp 105) 22 3 (.int .i64 0) 8 rfl Try.underlying22 info3 rfl (by decide) (by omega) u8 x8_4 (wrap64 ((rd x3_1 x4_3) + (rd x3_1 x5_3))) [.int .i64 (wrap64 ((rd x3_1 x4_3) + (rd x3_1 x5_3)))] (fun k_ => some k_ ≠ (.slice (some ad404) x3_1.length co9 : Value).ownBlock) (fun _ => False) rfl rfl ?aP (fun _ hk => hk.elim) ?aF ?aO ?aB ?aS ?aL ?_; (case aP => exact rfl); (case aB => exact (by repeat (first | (with_reducible first | exact HB.out | apply below_alloc | apply pw_below_drewN | apply below_drew1) | exact HB.out))); (case aF => exact (fun k_ hk => Kd.fresh' (Kd.R_lt (by (with_reducible repeat (first | apply Kd.R_alloc | apply Kd.R_drewN | apply Kd.R_drew)); exact HO_3.out)) k_ hk)); (case aO => exact (by (with_reducible repeat (first | apply Kd.R_alloc | apply Kd.R_drewN | apply Kd.R_drew)); exact HO_8.out)); (case aS => exact (below_size (by repeat (first | (with_reducible first | exact HB.out | apply below_alloc | apply pw_below_drewN | apply below_drew1) | exact HB.out)))); (case aL => have := LMc40.out; omega); intro v417 w60 ho hb hg hat; rw [← Ny416.out] at ho; have n0_ := Aside0.mk (Kd.R_after (ok := (fun _ => True)) (by (with_reducible repeat (first | apply Kd.R_alloc | apply Kd.R_drewN | apply Kd.R_drew)); exact Kd.R_mono HO_3.out (fun _ hk => ⟨trivial, hk⟩)) hg hat); have n1_ := Aside0.mk (hb); have n2_ := Aside0.mk (ho); clear HO_3; clear HB; clear HO_8; have HO_3 := n0_; have HB := n1_; have HO418 := n2_; clear n0_ n1_ n2_; clear ho hb hg hat) | (go_at_call 20; (with_reducible refine (code_Best.calls k4 _ _ x3_1 32 t419 t420 t421 _ ?side1 ?side2 A41.out).mono ?_); (case side1 => repeat (first | exact (Kd.R_reads' HO_3.out).2.2 | (with_reducible refine Kd.C_alloc ?_ _) | (with_reducible refine Kd.C_drewN ?_ _) | (with_reducible refine Kd.C_drew ?_))); (case side2 => exact (Kd.R_reads' HO_3.out).2.1); rintro e w61 ⟨v422, rfl, ho0, hb⟩; have n0_ := Aside0.mk (Kd.R_elder' (by (with_reducible repeat (first | apply Kd.R_alloc | apply Kd.R_drewN | apply Kd.R_drew)); exact HO_3.out) (Kd.R_base ho0) hb); have n1_ := Aside0.mk (Kd.R_elder' (by (with_reducible repeat (first | apply Kd.R_alloc | apply Kd.R_drewN | apply Kd.R_drew)); exact HO418.out) (Kd.R_base ho0) hb); have n2_ := Aside0.mk (Kd.R_lower (Kd.R_new' (Kd.R_new' ho0 (Kd.R_lt (by (with_reducible repeat (first | apply Kd.R_alloc | apply Kd.R_drewN | apply Kd.R_drew)); exact HO_3.out))) (Kd.R_lt (by (with_reducible repeat (first | apply Kd.R_alloc | apply Kd.R_drewN | apply Kd.R_drew)); exact HO418.out))) (below_size (by repeat (first | (with_reducible first | exact HB.out | apply below_alloc | apply pw_below_drewN | apply below_drew1) | exact HB.out)))); have n3_ := Aside0.mk (below_step (by repeat (first | (with_reducible first | exact HB.out | apply below_alloc | apply pw_below_drewN | apply below_drew1) | exact HB.out)) hb); clear HO_3; clear HO418; clear HB; have HO_3 := n0_; have HO418 := n1_; have HO423 := n2_; have HB := n3_; clear n0_ n1_ n2_ n3_; (try clear hb); (try clear hb2); (try clear hk); (try clear hi); (try clear ho0); obtain ⟨Ao62, co62, eo62⟩ := Kd.R_slice HO418.out; subst eo62) | (go_at_call 20; (with_reducible refine (code_Best.calls k4 _ _ y416 32 t424 t425 t426 _ ?side1 ?side2 A42.out).mono ?_); (case side1 => repeat (first | exact (Kd.R_reads' HO418.out).2.2 | (with_reducible refine Kd.C_alloc ?_ _) | (with_reducible refine Kd.C_drewN ?_ _) | (with_reducible refine Kd.C_drew ?_))); (case side2 => exact (Kd.R_reads' HO418.out).2.1); rintro e w63 ⟨v427, rfl, ho0, hb⟩; have n0_ := Aside0.mk (Kd.R_elder' (by (with_reducible repeat (first | apply Kd.R_alloc | apply Kd.R_drewN | apply Kd.R_drew)); exact HO_3.out) (Kd.R_base ho0) hb); have n1_ := Aside0.mk (Kd.R_elder' (by (with_reducible repeat (first | apply Kd.R_alloc | apply Kd.R_drewN | apply Kd.R_drew)); exact HO418.out) (Kd.R_base ho0) hb); have n2_ := Aside0.mk (Kd.R_elder' (by (with_reducible repeat (first | apply Kd.R_alloc | apply Kd.R_drewN | apply Kd.R_drew)); exact HO423.out) (Kd.R_base ho0) hb); have n3_ := Aside0.mk (Kd.R_lower (Kd.R_new' (Kd.R_new' (Kd.R_new' ho0 (Kd.R_lt (by (with_reducible repeat (first | apply Kd.R_alloc | apply Kd.R_drewN | apply Kd.R_drew)); exact HO_3.out))) (Kd.R_lt (by (with_reducible repeat (first | apply Kd.R_alloc | apply Kd.R_drewN | apply Kd.R_drew)); exact HO418.out))) (Kd.R_lt (by (with_reducible repeat (first | apply Kd.R_alloc | apply Kd.R_drewN | apply Kd.R_drew)); exact HO423.out))) (below_size (by repeat (first | (with_reducible first | exact HB.out | apply below_alloc | apply pw_below_drewN | apply below_drew1) | exact HB.out)))); have n4_ := Aside0.mk (below_step (by repeat (first | (with_reducible first | exact HB.out | apply below_alloc | apply pw_below_drewN | apply below_drew1) | exact HB.out)) hb); clear HO_3; clear HO418; clear HO423; clear HB; have HO_3 := n0_; have HO418 := n1_; have HO423 := n2_; have HO428 := n3_; have HB := n4_; clear n0_ n1_ n2_ n3_ n4_; (try clear hb); (try clear hb2); (try clear hk); (try clear hi); (try clear ho0)))
                       repeat (go_quiet (first | ((with_reducible refine gate_builtin (b := .append) (xs := #[.tmp 103, .tmp 105]) rfl ?_); at_builtin; refine Kd.R_append (Kd.int .i64) (w0 := w) w.heap.size rfl (.tmp 103) (.tmp 105) 22 3 (.int .i64 0) 8 rfl Try.underlying22 info3 rfl (by decide) (by omega) u8 x8_4 (wrap64 ((rd x3_1 x4_3) + (rd x3_1 x5_3))) [.int .i64 (wrap64 ((rd x3_1 x4_3) + (rd x3_1 x5_3)))] (fun k_ => some k_ ≠ (.slice (some ad404) x3_1.length co9 : Value).ownBlock) (fun _ => False) rfl rfl ?aP (fun _ hk => hk.elim) ?aF ?aO ?aB ?aS ?aL ?_; (case aP => exact rfl); (case aB => exact (by repeat (first | (with_reducible first | exact HB.out | apply below_alloc | apply pw_below_drewN | apply below_drew1) | exact HB.out))); (case aF => exact (fun k_ hk => Kd.fresh' (Kd.R_lt (by (with_reducible repeat (first | apply Kd.R_alloc | apply Kd.R_drewN | apply Kd.R_drew)); exact HO_3.out)) k_ hk)); (case aO => exact (by (with_reducible repeat (first | apply Kd.R_alloc | apply Kd.R_drewN | apply Kd.R_drew)); exact HO_8.out)); (case aS => exact (below_size (by repeat (first | (with_reducible first | exact HB.out | apply below_alloc | apply pw_below_drewN | apply below_drew1) | exact HB.out)))); (case aL => have := LMc40.out; omega); intro v417 w60 ho hb hg hat; rw [← Ny416.out] at ho; have n0_ := Aside0.mk (Kd.R_after (ok := (fun _ => True)) (by (with_reducible repeat (first | apply Kd.R_alloc | apply Kd.R_drewN | apply Kd.R_drew)); exact Kd.R_mono HO_3.out (fun _ hk => ⟨trivial, hk⟩)) hg hat); have n1_ := Aside0.mk (hb); have n2_ := Aside0.mk (ho); clear HO_3; clear HB; clear HO_8; have HO_3 := n0_; have HB := n1_; have HO418 := n2_; clear n0_ n1_ n2_; clear ho hb hg hat) | (go_at_call 20; (with_reducible refine (code_Best.calls k4 _ _ x3_1 32 t419 t420 t421 _ ?side1 ?side2 A41.out).mono ?_); (case side1 => repeat (first | exact (Kd.R_reads' HO_3.out).2.2 | (with_reducible refine Kd.C_alloc ?_ _) | (with_reducible refine Kd.C_drewN ?_ _) | (with_reducible refine Kd.C_drew ?_))); (case side2 => exact (Kd.R_reads' HO_3.out).2.1); rintro e w61 ⟨v422, rfl, ho0, hb⟩; have n0_ := Aside0.mk (Kd.R_elder' (by (with_reducible repeat (first | apply Kd.R_alloc | apply Kd.R_drewN | apply Kd.R_drew)); exact HO_3.out) (Kd.R_base ho0) hb); have n1_ := Aside0.mk (Kd.R_elder' (by (with_reducible repeat (first | apply Kd.R_alloc | apply Kd.R_drewN | apply Kd.R_drew)); exact HO418.out) (Kd.R_base ho0) hb); have n2_ := Aside0.mk (Kd.R_lower (Kd.R_new' (Kd.R_new' ho0 (Kd.R_lt (by (with_reducible repeat (first | apply Kd.R_alloc | apply Kd.R_drewN | apply Kd.R_drew)); exact HO_3.out))) (Kd.R_lt (by (with_reducible repeat (first | apply Kd.R_alloc | apply Kd.R_drewN | apply Kd.R_drew)); exact HO418.out))) (below_size (by repeat (first | (with_reducible first | exact HB.out | apply below_alloc | apply pw_below_drewN | apply below_drew1) | exact HB.out)))); have n3_ := Aside0.mk (below_step (by repeat (first | (with_reducible first | exact HB.out | apply below_alloc | apply pw_below_drewN | apply below_drew1) | exact HB.out)) hb); clear HO_3; clear HO418; clear HB; have HO_3 := n0_; have HO418 := n1_; have HO423 := n2_; have HB := n3_; clear n0_ n1_ n2_ n3_; (try clear hb); (try clear hb2); (try clear hk); (try clear hi); (try clear ho0); obtain ⟨Ao62, co62, eo62⟩ := Kd.R_slice HO418.out; subst eo62) | (go_at_call 20; (with_reducible refine (code_Best.calls k4 _ _ y416 32 t424 t425 t426 _ ?side1 ?side2 A42.out).mono ?_); (case side1 => repeat (first | exact (Kd.R_reads' HO418.out).2.2 | (with_reducible refine Kd.C_alloc ?_ _) | (with_reducible refine Kd.C_drewN ?_ _) | (with_reducible refine Kd.C_drew ?_))); (case side2 => exact (Kd.R_reads' HO418.out).2.1); rintro e w63 ⟨v427, rfl, ho0, hb⟩; have n0_ := Aside0.mk (Kd.R_elder' (by (with_reducible repeat (first | apply Kd.R_alloc | apply Kd.R_drewN | apply Kd.R_drew)); exact HO_3.out) (Kd.R_base ho0) hb); have n1_ := Aside0.mk (Kd.R_elder' (by (with_reducible repeat (first | apply Kd.R_alloc | apply Kd.R_drewN | apply Kd.R_drew)); exact HO418.out) (Kd.R_base ho0) hb); have n2_ := Aside0.mk (Kd.R_elder' (by (with_reducible repeat (first | apply Kd.R_alloc | apply Kd.R_drewN | apply Kd.R_drew)); exact HO423.out) (Kd.R_base ho0) hb); have n3_ := Aside0.mk (Kd.R_lower (Kd.R_new' (Kd.R_new' (Kd.R_new' ho0 (Kd.R_lt (by (with_reducible repeat (first | apply Kd.R_alloc | apply Kd.R_drewN | apply Kd.R_drew)); exact HO_3.out))) (Kd.R_lt (by (with_reducible repeat (first | apply Kd.R_alloc | apply Kd.R_drewN | apply Kd.R_drew)); exact HO418.out))) (Kd.R_lt (by (with_reducible repeat (first | apply Kd.R_alloc | apply Kd.R_drewN | apply Kd.R_drew)); exact HO423.out))) (below_size (by repeat (first | (with_reducible first | exact HB.out | apply below_alloc | apply pw_below_drewN | apply below_drew1) | exact HB.out)))); have n4_ := Aside0.mk (below_step (by repeat (first | (with_reducible first | exact HB.out | apply below_alloc | apply pw_below_drewN | apply below_drew1) | exact HB.out)) hb); clear HO_3; clear HO418; clear HO423; clear HB; have HO_3 := n0_; have HO418 := n1_; have HO423 := n2_; have HO428 := n3_; have HB := n4_; clear n0_ n1_ n2_ n3_ n4_; (try clear hb); (try clear hb2); (try clear hk); (try clear hi); (try clear ho0))); try go_wp2_with (first | ((with_reducible refine gate_builtin (b := .append) (xs := #[.tmp 103, .tmp 105]) rfl ?_); at_builtin; refine Kd.R_append (Kd.int .i64) (w0 := w) w.heap.size rfl (.tmp 103) (.tmp 105) 22 3 (.int .i64 0) 8 rfl Try.underlying22 info3 rfl (by decide) (by omega) u8 x8_4 (wrap64 ((rd x3_1 x4_3) + (rd x3_1 x5_3))) [.int .i64 (wrap64 ((rd x3_1 x4_3) + (rd x3_1 x5_3)))] (fun k_ => some k_ ≠ (.slice (some ad404) x3_1.length co9 : Value).ownBlock) (fun _ => False) rfl rfl ?aP (fun _ hk => hk.elim) ?aF ?aO ?aB ?aS ?aL ?_; (case aP => exact rfl); (case aB => exact (by repeat (first | (with_reducible first | exact HB.out | apply below_alloc | apply pw_below_drewN | apply below_drew1) | exact HB.out))); (case aF => exact (fun k_ hk => Kd.fresh' (Kd.R_lt (by (with_reducible repeat (first | apply Kd.R_alloc | apply Kd.R_drewN | apply Kd.R_drew)); exact HO_3.out)) k_ hk)); (case aO => exact (by (with_reducible repeat (first | apply Kd.R_alloc | apply Kd.R_drewN | apply Kd.R_drew)); exact HO_8.out)); (case aS => exact (below_size (by repeat (first | (with_reducible first | exact HB.out | apply below_alloc | apply pw_below_drewN | apply below_drew1) | exact HB.out)))); (case aL => have := LMc40.out; omega); intro v417 w60 ho hb hg hat; rw [← Ny416.out] at ho; have n0_ := Aside0.mk (Kd.R_after (ok := (fun _ => True)) (by (with_reducible repeat (first | apply Kd.R_alloc | apply Kd.R_drewN | apply Kd.R_drew)); exact Kd.R_mono HO_3.out (fun _ hk => ⟨trivial, hk⟩)) hg hat); have n1_ := Aside0.mk (hb); have n2_ := Aside0.mk (ho); clear HO_3; clear HB; clear HO_8; have HO_3 := n0_; have HB := n1_; have HO418 := n2_; clear n0_ n1_ n2_; clear ho hb hg hat) | (go_at_call 20; (with_reducible refine (code_Best.calls k4 _ _ x3_1 32 t419 t420 t421 _ ?side1 ?side2 A41.out).mono ?_); (case side1 => repeat (first | exact (Kd.R_reads' HO_3.out).2.2 | (with_reducible refine Kd.C_alloc ?_ _) | (with_reducible refine Kd.C_drewN ?_ _) | (with_reducible refine Kd.C_drew ?_))); (case side2 => exact (Kd.R_reads' HO_3.out).2.1); rintro e w61 ⟨v422, rfl, ho0, hb⟩; have n0_ := Aside0.mk (Kd.R_elder' (by (with_reducible repeat (first | apply Kd.R_alloc | apply Kd.R_drewN | apply Kd.R_drew)); exact HO_3.out) (Kd.R_base ho0) hb); have n1_ := Aside0.mk (Kd.R_elder' (by (with_reducible repeat (first | apply Kd.R_alloc | apply Kd.R_drewN | apply Kd.R_drew)); exact HO418.out) (Kd.R_base ho0) hb); have n2_ := Aside0.mk (Kd.R_lower (Kd.R_new' (Kd.R_new' ho0 (Kd.R_lt (by (with_reducible repeat (first | apply Kd.R_alloc | apply Kd.R_drewN | apply Kd.R_drew)); exact HO_3.out))) (Kd.R_lt (by (with_reducible repeat (first | apply Kd.R_alloc | apply Kd.R_drewN | apply Kd.R_drew)); exact HO418.out))) (below_size (by repeat (first | (with_reducible first | exact HB.out | apply below_alloc | apply pw_below_drewN | apply below_drew1) | exact HB.out)))); have n3_ := Aside0.mk (below_step (by repeat (first | (with_reducible first | exact HB.out | apply below_alloc | apply pw_below_drewN | apply below_drew1) | exact HB.out)) hb); clear HO_3; clear HO418; clear HB; have HO_3 := n0_; have HO418 := n1_; have HO423 := n2_; have HB := n3_; clear n0_ n1_ n2_ n3_; (try clear hb); (try clear hb2); (try clear hk); (try clear hi); (try clear ho0); obtain ⟨Ao62, co62, eo62⟩ := Kd.R_slice HO418.out; subst eo62) | (go_at_call 20; (with_reducible refine (code_Best.calls k4 _ _ y416 32 t424 t425 t426 _ ?side1 ?side2 A42.out).mono ?_); (case side1 => repeat (first | exact (Kd.R_reads' HO418.out).2.2 | (with_reducible refine Kd.C_alloc ?_ _) | (with_reducible refine Kd.C_drewN ?_ _) | (with_reducible refine Kd.C_drew ?_))); (case side2 => exact (Kd.R_reads' HO418.out).2.1); rintro e w63 ⟨v427, rfl, ho0, hb⟩; have n0_ := Aside0.mk (Kd.R_elder' (by (with_reducible repeat (first | apply Kd.R_alloc | apply Kd.R_drewN | apply Kd.R_drew)); exact HO_3.out) (Kd.R_base ho0) hb); have n1_ := Aside0.mk (Kd.R_elder' (by (with_reducible repeat (first | apply Kd.R_alloc | apply Kd.R_drewN | apply Kd.R_drew)); exact HO418.out) (Kd.R_base ho0) hb); have n2_ := Aside0.mk (Kd.R_elder' (by (with_reducible repeat (first | apply Kd.R_alloc | apply Kd.R_drewN | apply Kd.R_drew)); exact HO423.out) (Kd.R_base ho0) hb); have n3_ := Aside0.mk (Kd.R_lower (Kd.R_new' (Kd.R_new' (Kd.R_new' ho0 (Kd.R_lt (by (with_reducible repeat (first | apply Kd.R_alloc | apply Kd.R_drewN | apply Kd.R_drew)); exact HO_3.out))) (Kd.R_lt (by (with_reducible repeat (first | apply Kd.R_alloc | apply Kd.R_drewN | apply Kd.R_drew)); exact HO418.out))) (Kd.R_lt (by (with_reducible repeat (first | apply Kd.R_alloc | apply Kd.R_drewN | apply Kd.R_drew)); exact HO423.out))) (below_size (by repeat (first | (with_reducible first | exact HB.out | apply below_alloc | apply pw_below_drewN | apply below_drew1) | exact HB.out)))); have n4_ := Aside0.mk (below_step (by repeat (first | (with_reducible first | exact HB.out | apply below_alloc | apply pw_below_drewN | apply below_drew1) | exact HB.out)) hb); clear HO_3; clear HO418; clear HO423; clear HB; have HO_3 := n0_; have HO418 := n1_; have HO423 := n2_; have HO428 := n3_; have HB := n4_; clear n0_ n1_ n2_ n3_ n4_; (try clear hb); (try clear hb2); (try clear hk); (try clear hi); (try clear ho0))))
                       go_ret
                       exact ⟨by first | rfl | (simp [errW_none, errW_some] <;> rfl) | (simp [*, errW_none, errW_some] <;> rfl), by repeat (first | (with_reducible first | exact HB.out | apply below_alloc | apply pw_below_drewN | apply below_drew1) | exact HB.out)⟩
                     ·
                      rw [if_neg c40] at H
                      exact absurd H (by simp)
                    ·
                     rw [if_neg c39] at H
                     exact absurd H (by simp)
                   ·
                    rw [if_neg c38] at H
                    exact absurd H (by simp)
                  ·
                   rw [if_neg c37] at H
                   exact absurd H (by simp)
                 ·
                  rw [if_neg c36] at H
                  exact absurd H (by simp)
        ·
         rw [if_neg c19] at H
         exact absurd H (by simp)
       ·
        rw [if_neg c18] at H
        exact absurd H (by simp)
      ·
       rw [if_neg c17] at H
       exact absurd H (by simp)
     ·
      rw [if_neg c16] at H
      exact absurd H (by simp)
def turndownlaw06_CodeMerges.Pure : Prop := ∀ (l0 : List Int), l0.length ≤ maxLen → l0.length * 8 ≤ 140737488351232 → (∀ x ∈ l0, (Lit.int .i64 x).wf = true) → ∃ k, turndownlaw06_CodeMerges.f k l0 = some true
theorem turndownlaw06_CodeMerges.walk (P : turndownlaw06_CodeMerges.Pure) (a0 : Option Addr) (len0 cap0 : Nat) (z0 : List Int) (w : World) (w0 : (a0 = none ∧ len0 = 0 ∧ cap0 = 0 ∧ z0 = []) ∨ ∃ x, a0 = some x ∧ len0 ≤ cap0 ∧ cap0 ≤ maxLen ∧ z0.length = cap0 ∧ (∀ i, i < z0.length → w.cell? (x.add i) = some (.int .i64 (z0.getD i 0))) ∧ ∀ n ∈ z0, (Lit.int .i64 n).wf = true) (y0 : len0 * 8 ≤ 140737488351232) :
  Calls Try.prog 10 #[.slice a0 len0 cap0] w fun e w' => e = .returned (.bool true) ∧ Below w.heap.size w w' := by
 obtain ⟨l0, rfl, hr0, hm0, hw0, hc0⟩ := ReadsInt.ofRowC w0
 obtain ⟨k, h⟩ := P l0 hm0 y0 hw0
 refine (turndownlaw06_CodeMerges.calls k _ _ l0 true w (Kd.C_of_reads (d := (0 : Int)) (h1 := fun _ => rfl) hr0) hc0 h).mono ?_
 rintro e w' ⟨rfl, hd⟩
 exact ⟨rfl, hd⟩
end Go.Proofs.Ytcpojohpmcnnhaa.PA

set_option linter.unusedVariables false
set_option linter.unusedSimpArgs false
namespace Go.Proofs.Ytcpojohpmcnnhaa.Pure
open Go.RowKit Go.Proofs.Ytcpojohpmcnnhaa.PA Go.Proofs.YtcpojohpmcnnhaaW.PrintWords Go.Proofs.YtcpojohpmcnnhaaW.PrintLast Go.Proofs.Ytcpojohpmcnnhaa.L Go.Proofs.Ytcpojohpmcnnhaa.K
def modM (w : List Int) : List Int := w.map (fun x => modI x 1000001)
def without (w : List Int) (a b : Nat) : List Int := ((List.range w.length).filter (fun i => !(i == a) && !(i == b))).map (fun i => w.getD i 0)
theorem without_perm {w : List Int} {a b : Nat} (ha : a < w.length) (hb : b < w.length) (hne : a ≠ b) : (w.getD a 0 :: w.getD b 0 :: without w a b).Perm w := by
  have h1 : (List.range w.length).Perm (a :: (List.range w.length).erase a) := List.perm_cons_erase (List.mem_range.2 ha)
  have h2 : b ∈ (List.range w.length).erase a := (List.mem_erase_of_ne (Ne.symm hne)).2 (List.mem_range.2 hb)
  have h3 := List.perm_cons_erase h2
  have h4 : ((List.range w.length).filter (fun i => !(i == a) && !(i == b))) = ((List.range w.length).erase a).erase b := by
    rw [List.nodup_range.erase_eq_filter, List.Nodup.erase_eq_filter (List.Pairwise.filter _ List.nodup_range), List.filter_filter]
    refine List.filter_congr (fun i _ => ?_)
    simp only [bne]
    rw [Bool.and_comm]
  have h5 := (h1.trans (h3.cons a)).map (fun s => w.getD s 0)
  rw [range_getD] at h5
  refine List.Perm.trans ?_ h5.symm
  unfold without
  rw [h4]
  exact .refl _
theorem without_mem {w : List Int} {a b : Nat} {x : Int} (h : x ∈ without w a b) : ∃ i, i < w.length ∧ i ≠ a ∧ i ≠ b ∧ x = w.getD i 0 := by
  obtain ⟨i, hi, rfl⟩ := List.mem_map.1 h
  obtain ⟨h1, h2⟩ := List.mem_filter.1 hi
  simp at h2
  exact ⟨i, List.mem_range.1 h1, h2.1, h2.2, rfl⟩
theorem merges_fin {w : List Int} {a b : Nat} {sum : Int} (h2 : 2 ≤ w.length) (h30 : w.length ≤ 30) (hw : ∀ x, x ∈ w → 0 ≤ x ∧ x ≤ 1000000) (ha : a < w.length) (hb : b < w.length) (hne : a ≠ b) (hab : w.getD a 0 ≤ w.getD b 0)
    (hmin : ∀ i, i < w.length → i ≠ a → i ≠ b → w.getD b 0 ≤ w.getD i 0) (hs : sum = w.getD a 0 + w.getD b 0) :
    ∃ l c l' c', bestR w 32 = (l, c, 0) ∧ bestR (without w a b ++ [sum]) 32 = (l', c', 0) ∧ c = c' + sum ∧ 0 ≤ c' ∧ c' ≤ 1000000000000 := by
  have hperm := without_perm ha hb hne
  have hlen := hperm.length_eq
  simp only [List.length_cons] at hlen
  have hwa := hw _ (getD_mem ha)
  have hwb := hw _ (getD_mem hb)
  have hw' : ∀ x, x ∈ w → 0 ≤ x ∧ x ≤ 1073741824 := fun x hx => by have := hw x hx; omega
  have hl' : ∀ x, x ∈ without w a b ++ [sum] → 0 ≤ x ∧ x ≤ 2000000 := fun x hx => by
    rcases List.mem_append.1 hx with hx | hx
    · obtain ⟨i, hi, _, _, rfl⟩ := without_mem hx
      have := hw _ (getD_mem hi)
      omega
    · rw [List.mem_singleton.1 hx]; omega
  have hl'' : ∀ x, x ∈ without w a b ++ [sum] → 0 ≤ x ∧ x ≤ 1073741824 := fun x hx => by have := hl' x hx; omega
  have hll : (without w a b ++ [sum]).length = w.length - 1 := by simp; omega
  have h32 : (2 : Nat) ^ 5 ≤ 2 ^ 32 := Nat.pow_le_pow_right (by omega) (by omega)
  have B1 := lensB_ok (ws := w) (by omega) (by omega) hw' (L := 32) (by omega) (by omega)
  have B2 := lensB_ok (ws := without w a b ++ [sum]) (by omega) (by omega) hl'' (L := 32) (by omega) (by omega)
  have r1 : bestR w ((32 : Nat) : Int) = (lensB w 32, costW w (lensB w 32) w.length 0, 0) := by
    unfold bestR
    rw [if_pos ⟨by rw [lenB_iff.2 (by omega), okB_iff.2 hw']; rfl, by omega, by omega⟩, Int.toNat_natCast, if_pos (by omega)]
  have r2 : bestR (without w a b ++ [sum]) ((32 : Nat) : Int) = (lensB (without w a b ++ [sum]) 32, costW (without w a b ++ [sum]) (lensB (without w a b ++ [sum]) 32) (without w a b ++ [sum]).length 0, 0) := by
    unfold bestR
    rw [if_pos ⟨by rw [lenB_iff.2 (by omega), okB_iff.2 hl'']; rfl, by omega, by omega⟩, Int.toNat_natCast, if_pos (by omega)]
  have o1 := B1.opt
  have o2 := B2.opt
  rw [← B1.cost] at o1
  rw [← B2.cost] at o2
  refine ⟨_, _, _, _, r1, r2, ?_, ?_⟩
  · have p2 : (without w a b ++ [sum]).Perm ((w.getD a 0 + w.getD b 0) :: without w a b) := by rw [← hs]; exact List.perm_append_comm
    have := opt_merge (rest := without w a b) (M := 32) hwa.1 hab (fun x hx => by
      obtain ⟨i, hi, h3, h4, rfl⟩ := without_mem hx
      exact hmin i hi h3 h4) (by omega) (opt_perm hperm.symm o1) (opt_perm p2 o2)
    omega
  · obtain ⟨ps, p1, p2, pe⟩ := o2.some
    rw [← pe]
    have hb2 : ∀ qs : WL, (∀ p, p ∈ qs → (0 ≤ p.1 ∧ p.1 ≤ 2000000) ∧ p.2 ≤ 32) → 0 ≤ costP qs ∧ costP qs ≤ 64000000 * (qs.length : Int) := by
      intro qs
      induction qs with
      | nil => intro _; simp [costP]
      | cons p qs ihq =>
        intro h
        have h2 := ihq (fun q hq => h q (by simp [hq]))
        obtain ⟨⟨h3, h4⟩, h5⟩ := h p (by simp)
        have h6 : p.1 * (p.2 : Int) ≤ 2000000 * 32 := Int.le_trans (Int.mul_le_mul_of_nonneg_right h4 (by omega)) (Int.mul_le_mul_of_nonneg_left (by omega) (by omega))
        have h7 : 0 ≤ p.1 * (p.2 : Int) := Int.mul_nonneg h3 (by omega)
        rw [costP_cons, List.length_cons]
        push_cast
        omega
    have := hb2 ps (fun p hp => ⟨hl' _ (p1.subset (List.mem_map.2 ⟨p, hp, rfl⟩)), p2.le p hp⟩)
    rw [for_length p1, hll] at this
    omega
theorem merges_l2 {w : List Int} {a b : Nat} (h2 : 2 ≤ w.length) (h30 : w.length ≤ 30) (hw : ∀ x, x ∈ w → 0 ≤ x ∧ x ≤ 1000000) (ha : a < w.length) (hb : b < w.length) (hne : a ≠ b) (hab : w.getD a 0 ≤ w.getD b 0)
    (hmin : ∀ i, i < w.length → i ≠ a → i ≠ b → w.getD b 0 ≤ w.getD i 0) :
    ∀ e q (out : List Int), q + e = w.length → out = ((List.range q).filter (fun i => !(i == a) && !(i == b))).map (fun i => w.getD i 0) → Ev (fun k => turndownlaw06_CodeMerges.l2 k w (a : Int) (b : Int) out (q : Int)) true := by
  intro e
  induction e with
  | zero =>
    intro q out hq ho
    have hq' : q = w.length := by omega
    subst hq'
    have ho' : out = without w a b := ho
    have hol : out.length ≤ w.length := by
      rw [ho, List.length_map]
      exact Nat.le_trans (List.length_filter_le _ _) (by simp)
    subst ho'
    have hwa := hw _ (getD_mem ha)
    have hwb := hw _ (getD_mem hb)
    have hsum : wrap64 (w.getD a 0 + w.getD b 0) = w.getD a 0 + w.getD b 0 := by
      generalize w.getD a 0 = x at *
      generalize w.getD b 0 = y at *
      unfold wrap64; omega
    obtain ⟨sum, hsm⟩ : ∃ sum, sum = w.getD a 0 + w.getD b 0 := ⟨_, rfl⟩
    rw [← hsm] at hsum
    obtain ⟨l, c, l', c', r1, r2, hc, hc0, hc1⟩ := merges_fin h2 h30 hw ha hb hne hab hmin hsm
    have e1 := best_ev w 32 (by omega)
    have e2 := best_ev (without w a b ++ [sum]) 32 (by simp; omega)
    rw [r1] at e1
    rw [r2] at e2
    have hcw : wrap64 (c' + sum) = c := by
      have : 0 ≤ sum ∧ sum ≤ 2000000 := by omega
      rw [hc]; unfold wrap64; omega
    refine Ev.step (fun k => ?_) (Ev.bind (f := fun k (bt419 : List Int × Int × Int) => ((code_Best.f k (without w a b ++ [sum]) 32).bind fun bt424 => (if bt419.2.2 = 0 then (if bt424.2.2 = 0 then (if bt419.2.1 = (wrap64 (bt424.2.1 + sum)) then ((turndownlaw06_awake.f k).bind fun t429 => (some t429)) else (some false)) else (some false)) else (some false)))) e1 ?_)
    · rw [turndownlaw06_CodeMerges.l2, if_neg (by omega), if_pos (by omega), if_pos (by omega), if_pos (by omega), if_pos (by omega), if_pos (by omega), rd_nat, rd_nat, ← hsm, hsum]
    · refine Ev.bind e2 ?_
      simp only [if_true, hcw]
      exact Ev.bind (f := fun _ t => some t) awake_ev (Ev.now _)
  | succ e ih =>
    intro q out hq ho
    have hol : out.length ≤ q := by
      rw [ho, List.length_map]
      exact Nat.le_trans (List.length_filter_le _ _) (by simp)
    by_cases h1 : q = a
    · refine Ev.step (fun k => ?_) (ih (q + 1) out (by omega) ?_)
      · rw [turndownlaw06_CodeMerges.l2, if_pos (by omega), if_pos (by omega), w1 (by omega)]
      · rw [ho, List.range_succ, List.filter_append]
        simp [h1]
    · by_cases h3 : q = b
      · refine Ev.step (fun k => ?_) (ih (q + 1) out (by omega) ?_)
        · rw [turndownlaw06_CodeMerges.l2, if_pos (by omega), if_neg (by omega), if_pos (by omega), w1 (by omega)]
        · rw [ho, List.range_succ, List.filter_append]
          simp [h3]
      · refine Ev.step (fun k => ?_) (ih (q + 1) (out ++ [w.getD q 0]) (by omega) ?_)
        · rw [turndownlaw06_CodeMerges.l2, if_pos (by omega), if_neg (by omega), if_neg (by omega), if_pos (by omega), if_pos (by omega), rd_nat, w1 (by omega)]
        · rw [ho, List.range_succ, List.filter_append]
          simp [h1, h3]
theorem merges_l1 {w : List Int} (h2 : 2 ≤ w.length) (h30 : w.length ≤ 30) (hw : ∀ x, x ∈ w → 0 ≤ x ∧ x ≤ 1000000) :
    ∀ e q a b, q + e = w.length → 2 ≤ q → a < q → b < q → a ≠ b → w.getD a 0 ≤ w.getD b 0 → (∀ i, i < q → i ≠ a → i ≠ b → w.getD b 0 ≤ w.getD i 0) → Ev (fun k => turndownlaw06_CodeMerges.l1 k w (a : Int) (b : Int) (q : Int)) true := by
  intro e
  induction e with
  | zero =>
    intro q a b hq h2q ha hb hne hab hmin
    have hq' : q = w.length := by omega
    subst hq'
    refine Ev.step (fun k => ?_) (merges_l2 h2 h30 hw ha hb hne hab hmin w.length 0 [] (by omega) rfl)
    rw [turndownlaw06_CodeMerges.l1, if_neg (by omega)]
    rfl
  | succ e ih =>
    intro q a b hq h2q ha hb hne hab hmin
    have hst : ∀ k, turndownlaw06_CodeMerges.l1 (k + 1) w (a : Int) (b : Int) (q : Int) = if w.getD q 0 < w.getD a 0 then turndownlaw06_CodeMerges.l1 k w (q : Int) (a : Int) ((q + 1 : Nat) : Int) else if w.getD q 0 < w.getD b 0 then turndownlaw06_CodeMerges.l1 k w (a : Int) (q : Int) ((q + 1 : Nat) : Int) else turndownlaw06_CodeMerges.l1 k w (a : Int) (b : Int) ((q + 1 : Nat) : Int) := fun k => by
      rw [turndownlaw06_CodeMerges.l1, if_pos (by omega), if_pos (by omega), if_pos (by omega), if_pos (by omega), rd_nat, rd_nat]
      by_cases c : w.getD q 0 < w.getD a 0
      · rw [if_pos c, if_pos c, w1 (by omega)]
      · rw [if_neg c, if_neg c, if_pos (by omega), if_pos (by omega), rd_nat, w1 (by omega)]
    by_cases c1 : w.getD q 0 < w.getD a 0
    · refine Ev.step (fun k => ?_) (ih (q + 1) q a (by omega) (by omega) (by omega) (by omega) (by omega) (by omega) (fun i hi h3 h4 => ?_))
      · rw [hst, if_pos c1]
      · by_cases h5 : i = b
        · rw [h5]; exact hab
        · have := hmin i (by omega) h4 h5; omega
    · by_cases c2 : w.getD q 0 < w.getD b 0
      · refine Ev.step (fun k => ?_) (ih (q + 1) a q (by omega) (by omega) (by omega) (by omega) (by omega) (by omega) (fun i hi h3 h4 => ?_))
        · rw [hst, if_neg c1, if_pos c2]
        · by_cases h5 : i = b
          · rw [h5]; omega
          · have := hmin i (by omega) h3 h5; omega
      · refine Ev.step (fun k => ?_) (ih (q + 1) a b (by omega) (by omega) (by omega) (by omega) hne hab (fun i hi h3 h4 => ?_))
        · rw [hst, if_neg c1, if_neg c2]
        · by_cases h5 : i = q
          · rw [h5]; omega
          · exact hmin i (by omega) h3 h4
theorem merges_l0 {w : List Int} (h2 : 2 ≤ w.length) (h30 : w.length ≤ 30) : ∀ e q, q + e = w.length → Ev (fun k => turndownlaw06_CodeMerges.l0 k ((modM w).take q ++ w.drop q) 0 1 (q : Int)) true := by
  have hml : (modM w).length = w.length := by simp [modM]
  have hmx : ∀ x, x ∈ modM w → 0 ≤ x ∧ x ≤ 1000000 := fun x hx => by
    obtain ⟨y, _, rfl⟩ := List.mem_map.1 hx
    have := modI_bd y (n := 1000001) (by omega)
    omega
  intro e
  induction e with
  | zero =>
    intro q hq
    have e0 : (modM w).take q ++ w.drop q = modM w := by rw [List.drop_of_length_le (by omega), List.append_nil, List.take_of_length_le (by omega)]
    rw [e0]
    have hj : ∀ a b : Nat, (a = 0 ∧ b = 1) ∨ (a = 1 ∧ b = 0) → (modM w).getD a 0 ≤ (modM w).getD b 0 → Ev (fun k => turndownlaw06_CodeMerges.j1 k (modM w) (a : Int) (b : Int)) true := by
      intro a b h hab
      refine Ev.step (fun k => ?_) (merges_l1 (by omega) (by omega) hmx (w.length - 2) 2 a b (by omega) (by omega) (by omega) (by omega) (by omega) hab (fun i hi h3 h4 => by omega))
      rw [turndownlaw06_CodeMerges.j1]
      rfl
    have r1 : rd (modM w) 1 = (modM w).getD 1 0 := rfl
    have r0 : rd (modM w) 0 = (modM w).getD 0 0 := rfl
    by_cases c : (modM w).getD 1 0 < (modM w).getD 0 0
    · refine Ev.step (fun k => ?_) (hj 1 0 (.inr ⟨rfl, rfl⟩) (by omega))
      rw [turndownlaw06_CodeMerges.l0, if_neg (by omega), if_pos (by omega), if_pos (by omega), if_pos (by omega), if_pos (by omega), r1, r0, if_pos c]
      rfl
    · refine Ev.step (fun k => ?_) (hj 0 1 (.inl ⟨rfl, rfl⟩) (by omega))
      rw [turndownlaw06_CodeMerges.l0, if_neg (by omega), if_pos (by omega), if_pos (by omega), if_pos (by omega), if_pos (by omega), r1, r0, if_neg c]
      rfl
  | succ e ih =>
    intro q hq
    have hql : q < w.length := by omega
    have hlen : ((modM w).take q ++ w.drop q).length = w.length := by simp [hml]; omega
    have hget : ((modM w).take q ++ w.drop q).getD q 0 = w.getD q 0 := by
      rw [drop_cons hql 0, List.getD_eq_getElem?_getD, List.getElem?_append_right (by rw [List.length_take]; omega), List.length_take, Nat.min_eq_left (by omega), Nat.sub_self]
      rfl
    have hset : ((modM w).take q ++ w.drop q).set q (modI (w.getD q 0) 1000001) = (modM w).take (q + 1) ++ w.drop (q + 1) := by
      have e1 : (modM w).take (q + 1) = (modM w).take q ++ [modI (w.getD q 0) 1000001] := by
        rw [List.take_succ_eq_append_getElem (by omega)]
        congr 1
        unfold modM
        simp [List.getD_eq_getElem?_getD, hql]
      rw [drop_cons hql 0, e1, List.append_assoc, List.set_append, if_neg (by rw [List.length_take]; omega), List.length_take, Nat.min_eq_left (by omega), Nat.sub_self]
      rfl
    refine Ev.step (fun k => ?_) (ih (q + 1) (by omega))
    rw [turndownlaw06_CodeMerges.l0, if_pos (by rw [hlen]; omega), if_pos (by omega), rd_nat, hget, mod_all _ (by omega) (by omega)]
    simp only [Option.bind_some, Int.toNat_natCast]
    rw [hset, w1 (by omega)]
theorem CodeMerges : turndownlaw06_CodeMerges.Pure := by
  intro l0 h1 h2 h3
  obtain ⟨w, hw, hw1, hw30, hwx⟩ := tame_ev l0 (most := 30) (low := 0) (by omega) (by omega) (by omega) (by omega) (by omega)
  refine Ev.rounds (Ev.congr (fun k => ?_) (Ev.bind (f := fun k (t397 : List Int) => (if (t397.length : Int) < 2 then ((turndownlaw06_awake.f k).bind fun t400 => (some t400)) else (turndownlaw06_CodeMerges.l0 k t397 0 1 0))) hw ?_))
  · rfl
  · by_cases h : (w.length : Int) < 2
    · simp only [if_pos h]
      exact Ev.bind (f := fun _ t => some t) awake_ev (Ev.now _)
    · simp only [if_neg h]
      have := merges_l0 (w := w) (by omega) (by omega) w.length 0 (by omega)
      rw [List.take_zero, List.drop_zero, List.nil_append] at this
      exact this
end Go.Proofs.Ytcpojohpmcnnhaa.Pure

namespace Go.Proofs.Ytcpojohpmcnnhaa.codeMerges
open Go.ChangeShapes Go.WideShapes Go.ChangeAt Go.RowKit
open Go.ChangeMaps (open_string shut_string)
set_option linter.unusedVariables false
theorem own : ownKnob Try.prog.godebug = none := by kernel_rfl
theorem laidOut : laidOutB Try.prog = true := by kernel_rfl
def IsRow (k : IntKind) (w : World) (a : Option Addr) (len cap : Nat) (zs : List Int) : Prop :=
 (a = none ∧ len = 0 ∧ cap = 0 ∧ zs = []) ∨
 ∃ x, a = some x ∧ len ≤ cap ∧ cap ≤ maxLen ∧ zs.length = cap ∧ (∀ i, i < zs.length → w.cell? (x.add i) = some (.int k (zs.getD i 0))) ∧ ∀ n ∈ zs, (Lit.int k n).wf = true
set_option maxRecDepth 100000 in
theorem lifted (os : Os) (started : os.Started) (H : Type) (enc : TypeId × Value → H) :
  ReturnsInHanded {} Try.checked os 10 .any (Rows.codeMergesSpec.pre6 enc Try.prog Try.f10 Rows.codeMergesRow.domain false) (Rows.codeMergesSpec.post enc Try.prog Try.f10 false true false false) := by
 refine returnsInHanded_of_change_sized (C := Try.checked) own started (by kernel_rfl) Try.func10
  (ChangeSpec.witness6 (enc := enc) (C := Try.checked) false ⟨#[], #[.slice none 0 0], []⟩ 8 (by kernel_rfl) (by kernel_rfl) (by kernel_rfl) (by kernel_rfl)) ?_
 intro W base args ds gs before hval0 hW hcnd hsz0 _
 have hsz : (DataW.weightsEach Try.prog (Try.f10.params.toList ++ Rows.codeMergesSpec.plain.varTypes Try.prog) (ds ++ gs)).all (· ≤ reachBytes) = true := hsz0
 have hval : ∀ (j : Nat) t v, Try.f10.params[j]? = some t → args[j]? = some v → Value.okWide Try.prog W .any base t v := hval0
 have hW' := hW
 obtain ⟨p, q, hA0, hV, rfl, hfz, hnd⟩ := hW
 have hA : DataW.TrodAll enc Try.prog W 0 (fun _ => true) true Try.f10.params.toList args.toList ds p := hA0
 rw [Try.params10] at hA hval hsz
 obtain ⟨v0, vs0, d0, ds0, p0, q0, hargs, rfl, rfl, h0, r0⟩ := trodAll_cons hA
 obtain ⟨rfl, rfl, rfl⟩ := trodAll_nil r0
 obtain rfl : args = #[v0] := by cases args; simp_all
 obtain ⟨rfl, rfl⟩ := trodVars_none hV
 obtain ⟨a0, len0, cap0, rfl⟩ := okWide_slice Try.underlying22 (hval 0 22 v0 rfl rfl)
 have k0 := h0
 have lt0 : ∀ x ∈ p0, x.block < W.heap.size := by obtain ⟨m, hm⟩ := k0; exact DataW.trod_lt m _ _ _ hm
 obtain ⟨z0, w0⟩ : ∃ zs, IsRow .i64 W a0 len0 cap0 zs := by
  obtain ⟨fuel, hf⟩ := h0
  rcases open_ints Try.underlying22 Try.underlying3 (by kernel_rfl) hf with ⟨hcs, _⟩ | ⟨x, l, c, zs, hcs, _, hl, hm, hz, _, hcell, hwz⟩
  ·
   simp [Value.cells] at hcs
   obtain ⟨rfl, rfl, rfl⟩ := hcs
   exact ⟨[], .inl ⟨rfl, rfl, rfl, rfl⟩⟩
  ·
   simp [Value.cells] at hcs
   obtain ⟨rfl, rfl, rfl⟩ := hcs
   exact ⟨zs, .inr ⟨_, rfl, hl, hm, by simpa using hz, hcell, hwz⟩⟩
 have y0 : len0 * 8 ≤ 140737488351232 := Go.Proofs.YtcpojohpmcnnhaaW.PrintWords.sized_ints hsz (j := 0) (t := 22) rfl rfl Try.underlying22 Try.underlying3 (by kernel_rfl) (by kernel_rfl) h0
 clear hA0 hval0 hsz0 hsz
 refine (PA.turndownlaw06_CodeMerges.walk Pure.CodeMerges a0 len0 cap0 z0 W w0 y0).mono fun e W' ⟨he, bel⟩ => ?_
 subst he
 exact ⟨_, rfl, _, _, _, [], _, [], hW', trodAll_mk1 (shut_bool Try.underlying4 _), (trodAll_cons_mk (Below.trod laidOut (by kernel_rfl) (of_decide_eq_true (by kernel_rfl)) k0 bel lt0) trodAll_mk0), rfl, bel.frame _, fun h => by cases h⟩
theorem over : Rows.codeMergesRow.holds Try.pinned (OpenSpec.ofChange Rows.codeMergesSpec) :=
 OpenClaim.holds_of_wide 10 Try.f10 rfl rfl rfl rfl rfl rfl rfl ⟨rfl, rfl, rfl, rfl, rfl⟩ rfl rfl rfl rfl rfl (by kernel_rfl) Try.func10 (by kernel_rfl)
  (of_decide_eq_true (by kernel_rfl)) (by unfold Func.isWrapper; first | (rw [if_pos (by decide +kernel)]; kernel_rfl) | (rw [if_neg (by decide +kernel)]; exact ⟨rfl, rfl⟩))
  (fun os started H enc _ => lifted os started H enc)
theorem proved : Rows.CodeMergesSaid := over
end Go.Proofs.Ytcpojohpmcnnhaa.codeMerges
namespace Go.Proofs.Ytcpojohpmcnnhaa
theorem codeMerges_holds : Rows.CodeMergesSaid := codeMerges.proved
end Go.Proofs.Ytcpojohpmcnnhaa
