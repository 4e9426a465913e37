/- For all strings and pairs of taps the statement CodeNearest holds: Go's function returns true and changes nothing that existed. -/
import Derived.Test.YtcpojohpmcnnhaaRows
import Derived.WalkKit
import Derived.ProofKit
import Derived.OpenShut
import Derived.ShutString
import Derived.ChangeOld
import Derived.Below
import Derived.SizedLaws
import Derived.Deep.Slices
import Derived.Deep.Strs
import Derived.Lib.SmallJoins
import Derived.Test.YtcpojohpmcnnhaaZo9
set_option linter.unusedSimpArgs false
set_option linter.unusedVariables false

namespace Go.Proofs.Ytcpojohpmcnnhaa.PA
open Go.RowKit Go.Proofs.YtcpojohpmcnnhaaW.PrintWords Go.Proofs.YtcpojohpmcnnhaaW.PrintLast Go.Proofs.YtcpojohpmcnnhaaW.PrintMore
attribute [local go_sem] max2_int min2_int max_two min_two max_three min_three max_four min_four
set_option linter.unusedVariables false
set_option linter.unusedSimpArgs false
mutual
def turndownlaw06_CodeNearest.l0 : Nat → ByteArray → Int → Int → Option (Bool)
 | 0, _, _, _ => none
 | k + 1, x5, x451000, x451001 => if (x5.size : Int) < 6 then (if x5.size + 1 ≤ 9223372036854775807 then (turndownlaw06_CodeNearest.l0 k (x5 ++ (⟨#[48]⟩ : ByteArray)) x451000 x451001) else (none)) else (if ((x5.size : Int) % 2) = 1 then (if x5.size + 1 ≤ 9223372036854775807 then (turndownlaw06_CodeNearest.l0 k (x5 ++ (⟨#[48]⟩ : ByteArray)) x451000 x451001) else (none)) else ((turndownlaw06_mod.f x451000 15).bind fun t452 => ((turndownlaw06_mod.f x451001 15).bind fun t453 => ((code_Read.f k x5 (wrap64 (1 + t452)) (wrap64 (1 + t453))).bind fun bt454 => (if bt454.2.2 = 0 then (if (bt454.1.size : Int) = (wrap64 ((wrap64 ((x5.size : Int) / 2)) - 3)) then ((turndownref06_Bits.f k bt454.1).bind fun t457 => (turndownlaw06_CodeNearest.j1 k x5 (wrap64 (1 + t452)) (wrap64 (1 + t453)) bt454.1 bt454.2.1 (wrap64 ((wrap64 ((x5.size : Int) / 2)) - 3)) (!t457))) else (turndownlaw06_CodeNearest.j1 k x5 (wrap64 (1 + t452)) (wrap64 (1 + t453)) bt454.1 bt454.2.1 (wrap64 ((wrap64 ((x5.size : Int) / 2)) - 3)) true)) else (turndownlaw06_CodeNearest.j1 k x5 (wrap64 (1 + t452)) (wrap64 (1 + t453)) bt454.1 bt454.2.1 (wrap64 ((wrap64 ((x5.size : Int) / 2)) - 3)) true))))))
def turndownlaw06_CodeNearest.j1 : Nat → ByteArray → Int → Int → ByteArray → Int → Int → Bool → Option (Bool)
 | 0, _, _, _, _, _, _, _ => none
 | k + 1, x5, x6, x7, x8, x9, x11, x64 => if x64 = true then (some false) else (turndownlaw06_CodeNearest.l1 k x5 x6 x7 x8 x9 x11 0)
def turndownlaw06_CodeNearest.l1 : Nat → ByteArray → Int → Int → ByteArray → Int → Int → Int → Option (Bool)
 | 0, _, _, _, _, _, _, _ => none
 | k + 1, x5, x6, x7, x8, x9, x11, x12 => if 0 ≤ x11 then (if x12 < (shl .i64 1 x11) then (turndownlaw06_CodeNearest.l2 k x5 x6 x7 x8 x9 x11 x12 (⟨#[]⟩ : ByteArray) (wrap64 (x11 - 1))) else ((turndownlaw06_awake.f k).bind fun t458 => (some t458))) else (none)
def turndownlaw06_CodeNearest.l2 : Nat → ByteArray → Int → Int → ByteArray → Int → Int → Int → ByteArray → Int → Option (Bool)
 | 0, _, _, _, _, _, _, _, _, _ => none
 | k + 1, x5, x6, x7, x8, x9, x11, x12, x13, x14 => if x14 ≥ 0 then (if 0 ≤ x14 then ((some (([(wrap64 (48 + (Int.tmod (shr .i64 x12 x14) 2))) % 256] : List Int) : List Int)).bind fun y459 => (if x13.size + (strOfNums y459).size ≤ 9223372036854775807 then (turndownlaw06_CodeNearest.l2 k x5 x6 x7 x8 x9 x11 x12 (x13 ++ (strOfNums y459)) (wrap64 (x14 - 1))) else (none))) else (none)) else ((code_Card.f k x13 x6 x7).bind fun bt462 => (if bt462.2 = 0 then (turndownlaw06_CodeNearest.j4 k x5 x6 x7 x8 x9 x11 x12 x13 bt462.1 ((bt462.1.size : Int) != (x5.size : Int))) else (turndownlaw06_CodeNearest.j4 k x5 x6 x7 x8 x9 x11 x12 x13 bt462.1 true)))
def turndownlaw06_CodeNearest.j4 : Nat → ByteArray → Int → Int → ByteArray → Int → Int → Int → ByteArray → ByteArray → Bool → Option (Bool)
 | 0, _, _, _, _, _, _, _, _, _, _ => none
 | k + 1, x5, x6, x7, x8, x9, x11, x12, x13, x15, x102 => if x102 = true then (some false) else (turndownlaw06_CodeNearest.l3 k x5 x6 x7 x8 x9 x11 x12 x13 x15 0 0)
def turndownlaw06_CodeNearest.l3 : Nat → ByteArray → Int → Int → ByteArray → Int → Int → Int → ByteArray → ByteArray → Int → Int → Option (Bool)
 | 0, _, _, _, _, _, _, _, _, _, _, _ => none
 | k + 1, x5, x6, x7, x8, x9, x11, x12, x13, x15, x17, x18 => if x18 < (x15.size : Int) then (if 0 ≤ x18 then (if x18 < (x5.size : Int) then (if (bt x15 x18) = (bt x5 x18) then (turndownlaw06_CodeNearest.l3 k x5 x6 x7 x8 x9 x11 x12 x13 x15 x17 (wrap64 (x18 + 1))) else (turndownlaw06_CodeNearest.l3 k x5 x6 x7 x8 x9 x11 x12 x13 x15 (wrap64 (x17 + 1)) (wrap64 (x18 + 1)))) else (none)) else (none)) else (if x17 < x9 then (some false) else (if x17 = x9 then (if (Op.bytesLess x13.toList x8.toList) = true then (some false) else (if x13.toList = x8.toList then (turndownlaw06_CodeNearest.l1 k x5 x6 x7 x8 x9 x11 (wrap64 (x12 + 1))) else (turndownlaw06_CodeNearest.l1 k x5 x6 x7 x8 x9 x11 (wrap64 (x12 + 1))))) else (if x13.toList = x8.toList then (some false) else (turndownlaw06_CodeNearest.l1 k x5 x6 x7 x8 x9 x11 (wrap64 (x12 + 1))))))
end
def turndownlaw06_CodeNearest.f (k : Nat) (a0 : ByteArray) (a1_0 : Int) (a1_1 : Int) : Option (Bool) := (turndownlaw06_bits.f k a0 22).bind fun t451 => (turndownlaw06_CodeNearest.l0 k t451 a1_0 a1_1)
set_option maxHeartbeats 8000000 in
set_option maxRecDepth 100000 in
theorem turndownlaw06_CodeNearest.calls (k : Nat) (a0 : ByteArray) (a1_0 : Int) (a1_1 : Int) (r : Bool) (w : World) (h : turndownlaw06_CodeNearest.f k a0 a1_0 a1_1 = some r) :
  Calls Try.prog 13 #[.string a0, .agg #[.int .i64 a1_0, .int .i64 a1_1]] w fun e w' => e = .returned (.bool r) ∧ Below w.heap.size w w' := by
 have hu38 := Try.underlying38
 have HB := Aside0.mk (Below.refl w.heap.size w)
 have H : ((turndownlaw06_bits.f k a0 22).bind fun t451 => (turndownlaw06_CodeNearest.l0 k t451 a1_0 a1_1)) = some r := h
 clear h
 replace H := Option.bind_eq_some_iff.mp H
 obtain ⟨t451, A30, H⟩ := H
 replace H : (turndownlaw06_CodeNearest.l0 k t451 a1_0 a1_1) = some r := H
 have A3 := Aside0.mk A30
 clear A30
 have H' := Aside0.mk H
 clear H
 go_enter Try.func13, Try.ntmps13
 go_wp2_with (first | ((with_reducible refine gate_dst (N := 3) rfl ?_); (try (refine gate_guard (by rfl) ?_; dsimp only)); refine box_event ?hg (N := 3) ?hd (cs := #[.int .i64 a1_0, .int .i64 a1_1]) (t := 38) ?hr ?_; (case hd => rfl); (case hg => rfl); (case hr => first | (go_simp; done) | (go_simp; rfl)); intro gb450 hg w4 hbox hb; have n0_ := Aside0.mk (below_step (by repeat (first | (with_reducible first | exact HB.out | apply below_alloc | apply pw_below_drewN | apply below_drew1) | exact HB.out)) hb); have n1_ := Aside0.mk (hbox); have n2_ := Aside0.mk ((by rw [hg]; exact (below_size (by repeat (first | (with_reducible first | exact HB.out | apply below_alloc | apply pw_below_drewN | apply below_drew1) | exact HB.out))) : w.heap.size ≤ gb450)); have n3_ := Aside0.mk ((by rw [hg]; exact (below_size (by repeat (first | (with_reducible first | exact HB.out | apply below_alloc | apply pw_below_drewN | apply below_drew1) | exact HB.out))) : w.heap.size ≤ gb450)); clear HB; have HB := n0_; have BK450 := n1_; have GW450 := n2_; have GE450 := n3_; clear n0_ n1_ n2_ n3_; clear hb hbox hg) | (go_at_call 41; (with_reducible refine (turndownlaw06_bits.calls k a0 22 t451 _ A3.out).mono ?_); rintro e w5 ⟨rfl, hb⟩; have n0_ := Aside0.mk (blk_below (g := gb450) (o := .cells #[.int .i64 a1_0, .int .i64 a1_1] 38 (0, 0)) (by (with_reducible repeat (first | refine blk_drewN ?_ _ | refine blk_drew ?_ | refine blk_alloc ?_ _)); exact BK450.out) hb); have n1_ := Aside0.mk (below_step (by repeat (first | (with_reducible first | exact HB.out | apply below_alloc | apply pw_below_drewN | apply below_drew1 | refine below_set ?_ GE450.out) | exact HB.out)) hb); clear BK450; clear HB; have BK450 := n0_; have HB := n1_; clear n0_ n1_; (try clear hb); (try clear hb2); (try clear hk); (try clear hi)))
 repeat (go_quiet (first | ((with_reducible refine gate_dst (N := 3) rfl ?_); (try (refine gate_guard (by rfl) ?_; dsimp only)); refine box_event ?hg (N := 3) ?hd (cs := #[.int .i64 a1_0, .int .i64 a1_1]) (t := 38) ?hr ?_; (case hd => rfl); (case hg => rfl); (case hr => first | (go_simp; done) | (go_simp; rfl)); intro gb450 hg w4 hbox hb; have n0_ := Aside0.mk (below_step (by repeat (first | (with_reducible first | exact HB.out | apply below_alloc | apply pw_below_drewN | apply below_drew1) | exact HB.out)) hb); have n1_ := Aside0.mk (hbox); have n2_ := Aside0.mk ((by rw [hg]; exact (below_size (by repeat (first | (with_reducible first | exact HB.out | apply below_alloc | apply pw_below_drewN | apply below_drew1) | exact HB.out))) : w.heap.size ≤ gb450)); have n3_ := Aside0.mk ((by rw [hg]; exact (below_size (by repeat (first | (with_reducible first | exact HB.out | apply below_alloc | apply pw_below_drewN | apply below_drew1) | exact HB.out))) : w.heap.size ≤ gb450)); clear HB; have HB := n0_; have BK450 := n1_; have GW450 := n2_; have GE450 := n3_; clear n0_ n1_ n2_ n3_; clear hb hbox hg) | (go_at_call 41; (with_reducible refine (turndownlaw06_bits.calls k a0 22 t451 _ A3.out).mono ?_); rintro e w5 ⟨rfl, hb⟩; have n0_ := Aside0.mk (blk_below (g := gb450) (o := .cells #[.int .i64 a1_0, .int .i64 a1_1] 38 (0, 0)) (by (with_reducible repeat (first | refine blk_drewN ?_ _ | refine blk_drew ?_ | refine blk_alloc ?_ _)); exact BK450.out) hb); have n1_ := Aside0.mk (below_step (by repeat (first | (with_reducible first | exact HB.out | apply below_alloc | apply pw_below_drewN | apply below_drew1 | refine below_set ?_ GE450.out) | exact HB.out)) hb); clear BK450; clear HB; have BK450 := n0_; have HB := n1_; clear n0_ n1_; (try clear hb); (try clear hb2); (try clear hk); (try clear hi))); try go_wp2_with (first | ((with_reducible refine gate_dst (N := 3) rfl ?_); (try (refine gate_guard (by rfl) ?_; dsimp only)); refine box_event ?hg (N := 3) ?hd (cs := #[.int .i64 a1_0, .int .i64 a1_1]) (t := 38) ?hr ?_; (case hd => rfl); (case hg => rfl); (case hr => first | (go_simp; done) | (go_simp; rfl)); intro gb450 hg w4 hbox hb; have n0_ := Aside0.mk (below_step (by repeat (first | (with_reducible first | exact HB.out | apply below_alloc | apply pw_below_drewN | apply below_drew1) | exact HB.out)) hb); have n1_ := Aside0.mk (hbox); have n2_ := Aside0.mk ((by rw [hg]; exact (below_size (by repeat (first | (with_reducible first | exact HB.out | apply below_alloc | apply pw_below_drewN | apply below_drew1) | exact HB.out))) : w.heap.size ≤ gb450)); have n3_ := Aside0.mk ((by rw [hg]; exact (below_size (by repeat (first | (with_reducible first | exact HB.out | apply below_alloc | apply pw_below_drewN | apply below_drew1) | exact HB.out))) : w.heap.size ≤ gb450)); clear HB; have HB := n0_; have BK450 := n1_; have GW450 := n2_; have GE450 := n3_; clear n0_ n1_ n2_ n3_; clear hb hbox hg) | (go_at_call 41; (with_reducible refine (turndownlaw06_bits.calls k a0 22 t451 _ A3.out).mono ?_); rintro e w5 ⟨rfl, hb⟩; have n0_ := Aside0.mk (blk_below (g := gb450) (o := .cells #[.int .i64 a1_0, .int .i64 a1_1] 38 (0, 0)) (by (with_reducible repeat (first | refine blk_drewN ?_ _ | refine blk_drew ?_ | refine blk_alloc ?_ _)); exact BK450.out) hb); have n1_ := Aside0.mk (below_step (by repeat (first | (with_reducible first | exact HB.out | apply below_alloc | apply pw_below_drewN | apply below_drew1 | refine below_set ?_ GE450.out) | exact HB.out)) hb); clear BK450; clear HB; have BK450 := n0_; have HB := n1_; clear n0_ n1_; (try clear hb); (try clear hb2); (try clear hk); (try clear hi))))
 go_loopg [5] k (fun kq v5 w' => ∃ (x5_1 : ByteArray), v5 = .string x5_1 ∧ Aside0 (turndownlaw06_CodeNearest.l0 kq x5_1 a1_0 a1_1 = some r) ∧ Aside0 (kq ≤ k) ∧ Aside0 (w'.heap[gb450]? = some (.cells #[.int .i64 a1_0, .int .i64 a1_1] 38 (0, 0))) ∧ Aside0 (Below w.heap.size w w'))
 case atStart => exact ⟨(t451), (by first | rfl | (simp; done) | (simp [*]; done)), H', ⟨Nat.le_refl _⟩, ⟨by (with_reducible repeat (first | refine blk_drewN ?_ _ | refine blk_drew ?_ | refine blk_alloc ?_ _)); exact BK450.out⟩, ⟨by repeat (first | (with_reducible first | exact HB.out | apply below_alloc | apply pw_below_drewN | apply below_drew1 | refine below_set ?_ GE450.out) | exact HB.out)⟩⟩
 case round =>
  clear H'
  try clear c1
  try clear p2
  obtain ⟨x5_1, rfl, HA, HK1, BK450, HB⟩ := hrel
  cases gk with
  | zero => exact absurd HA.out (by simp [turndownlaw06_CodeNearest.l0])
  | succ k1 =>
   have H := HA.out
   clear HA
   simp only [turndownlaw06_CodeNearest.l0] at H
   by_cases c6 : (x5_1.size : Int) < 6
   ·
    rw [if_pos c6] at H
    have c6b0 : decide ((x5_1.size : Int) < 6) = true := decide_eq_true c6
    have c6b1 : decide (x5_1.size < 6) = true := decide_eq_true (by omega)
    clear c6
    by_cases c7 : x5_1.size + 1 ≤ 9223372036854775807
    ·
     rw [if_pos c7] at H
     have c7b0 := eq_true c7
     have c7b1 : decide (x5_1.size + 1 ≤ 9223372036854775807) = true := decide_eq_true c7
     try have c7b2 : (9223372036854775807 < x5_1.size + 1) = False := eq_false (Nat.not_lt.2 c7)
     have H' := Aside0.mk H
     clear H
     go_wp2
     repeat (go_quiet (fail); try go_wp2)
     go_roundg k1
     case measure => have := HK1.out; omega
     case rel => exact ⟨(x5_1 ++ (⟨#[48]⟩ : ByteArray)), (by first | rfl | (simp; done) | (simp [*]; done)), H', ⟨by have := HK1.out; omega⟩, ⟨by (with_reducible repeat (first | refine blk_drewN ?_ _ | refine blk_drew ?_ | refine blk_alloc ?_ _)); exact BK450.out⟩, ⟨by repeat (first | (with_reducible first | exact HB.out | apply below_alloc | apply pw_below_drewN | apply below_drew1 | refine below_set ?_ GE450.out) | exact HB.out)⟩⟩
    ·
     rw [if_neg c7] at H
     exact absurd H (by simp)
   ·
    rw [if_neg c6] at H
    have c6b0 : decide ((x5_1.size : Int) < 6) = false := decide_eq_false c6
    have c6b1 : decide (x5_1.size < 6) = false := decide_eq_false (by omega)
    clear c6
    by_cases c8 : ((x5_1.size : Int) % 2) = 1
    ·
     rw [if_pos c8] at H
     have c8b0 : (((x5_1.size : Int) % 2) == 1) = true := beq_iff_eq.mpr c8
     have c8b1 : (((x5_1.size : Int) % 2) != 1) = false := bne_eq_false_iff_eq.mpr c8
     clear c8
     by_cases c9 : x5_1.size + 1 ≤ 9223372036854775807
     ·
      rw [if_pos c9] at H
      have c9b0 := eq_true c9
      have c9b1 : decide (x5_1.size + 1 ≤ 9223372036854775807) = true := decide_eq_true c9
      try have c9b2 : (9223372036854775807 < x5_1.size + 1) = False := eq_false (Nat.not_lt.2 c9)
      have H' := Aside0.mk H
      clear H
      go_wp2
      repeat (go_quiet (fail); try go_wp2)
      go_roundg k1
      case measure => have := HK1.out; omega
      case rel => exact ⟨(x5_1 ++ (⟨#[48]⟩ : ByteArray)), (by first | rfl | (simp; done) | (simp [*]; done)), H', ⟨by have := HK1.out; omega⟩, ⟨by (with_reducible repeat (first | refine blk_drewN ?_ _ | refine blk_drew ?_ | refine blk_alloc ?_ _)); exact BK450.out⟩, ⟨by repeat (first | (with_reducible first | exact HB.out | apply below_alloc | apply pw_below_drewN | apply below_drew1 | refine below_set ?_ GE450.out) | exact HB.out)⟩⟩
     ·
      rw [if_neg c9] at H
      exact absurd H (by simp)
    ·
     rw [if_neg c8] at H
     have c8b0 : (((x5_1.size : Int) % 2) == 1) = false := beq_eq_false_iff_ne.mpr c8
     have c8b1 : (((x5_1.size : Int) % 2) != 1) = true := bne_iff_ne.mpr c8
     replace H := Option.bind_eq_some_iff.mp H
     obtain ⟨t452, A100, H⟩ := H
     replace H : ((turndownlaw06_mod.f a1_1 15).bind fun t453 => ((code_Read.f k1 x5_1 (wrap64 (1 + t452)) (wrap64 (1 + t453))).bind fun bt454 => (if bt454.2.2 = 0 then (if (bt454.1.size : Int) = (wrap64 ((wrap64 ((x5_1.size : Int) / 2)) - 3)) then ((turndownref06_Bits.f k1 bt454.1).bind fun t457 => (turndownlaw06_CodeNearest.j1 k1 x5_1 (wrap64 (1 + t452)) (wrap64 (1 + t453)) bt454.1 bt454.2.1 (wrap64 ((wrap64 ((x5_1.size : Int) / 2)) - 3)) (!t457))) else (turndownlaw06_CodeNearest.j1 k1 x5_1 (wrap64 (1 + t452)) (wrap64 (1 + t453)) bt454.1 bt454.2.1 (wrap64 ((wrap64 ((x5_1.size : Int) / 2)) - 3)) true)) else (turndownlaw06_CodeNearest.j1 k1 x5_1 (wrap64 (1 + t452)) (wrap64 (1 + t453)) bt454.1 bt454.2.1 (wrap64 ((wrap64 ((x5_1.size : Int) / 2)) - 3)) true)))) = some r := H
     have A10 := Aside0.mk A100
     clear A100
     replace H := Option.bind_eq_some_iff.mp H
     obtain ⟨t453, A110, H⟩ := H
     replace H : ((code_Read.f k1 x5_1 (wrap64 (1 + t452)) (wrap64 (1 + t453))).bind fun bt454 => (if bt454.2.2 = 0 then (if (bt454.1.size : Int) = (wrap64 ((wrap64 ((x5_1.size : Int) / 2)) - 3)) then ((turndownref06_Bits.f k1 bt454.1).bind fun t457 => (turndownlaw06_CodeNearest.j1 k1 x5_1 (wrap64 (1 + t452)) (wrap64 (1 + t453)) bt454.1 bt454.2.1 (wrap64 ((wrap64 ((x5_1.size : Int) / 2)) - 3)) (!t457))) else (turndownlaw06_CodeNearest.j1 k1 x5_1 (wrap64 (1 + t452)) (wrap64 (1 + t453)) bt454.1 bt454.2.1 (wrap64 ((wrap64 ((x5_1.size : Int) / 2)) - 3)) true)) else (turndownlaw06_CodeNearest.j1 k1 x5_1 (wrap64 (1 + t452)) (wrap64 (1 + t453)) bt454.1 bt454.2.1 (wrap64 ((wrap64 ((x5_1.size : Int) / 2)) - 3)) true))) = some r := H
     have A11 := Aside0.mk A110
     clear A110
     replace H := Option.bind_eq_some_iff.mp H
     obtain ⟨⟨t454, t455, t456⟩, A120, H⟩ := H
     replace H : (if t456 = 0 then (if (t454.size : Int) = (wrap64 ((wrap64 ((x5_1.size : Int) / 2)) - 3)) then ((turndownref06_Bits.f k1 t454).bind fun t457 => (turndownlaw06_CodeNearest.j1 k1 x5_1 (wrap64 (1 + t452)) (wrap64 (1 + t453)) t454 t455 (wrap64 ((wrap64 ((x5_1.size : Int) / 2)) - 3)) (!t457))) else (turndownlaw06_CodeNearest.j1 k1 x5_1 (wrap64 (1 + t452)) (wrap64 (1 + t453)) t454 t455 (wrap64 ((wrap64 ((x5_1.size : Int) / 2)) - 3)) true)) else (turndownlaw06_CodeNearest.j1 k1 x5_1 (wrap64 (1 + t452)) (wrap64 (1 + t453)) t454 t455 (wrap64 ((wrap64 ((x5_1.size : Int) / 2)) - 3)) true)) = some r := H
     obtain ⟨jz, hjz⟩ : ∃ j_ : Int, (wrap64 ((wrap64 ((x5_1.size : Int) / 2)) - 3)) = j_ := ⟨_, rfl⟩
     simp only [hjz] at H
     have hjzw : (IntKind.i64.wrap ((wrap64 ((x5_1.size : Int) / 2)) - 3)) = jz := (i64_w _).trans hjz
     have A12 := Aside0.mk A120
     clear A120
     have HC13 := Aside0.mk H
     clear H
     have hcz14_0 : wr.cell? ⟨gb450, 0, none⟩ = some (.int .i64 a1_0) := (blk_cell BK450.out 0).trans rfl
     have hcz14_1 : wr.cell? ⟨gb450, 1, none⟩ = some (.int .i64 a1_1) := (blk_cell BK450.out 1).trans rfl
     have hfz14_0 := blk_frozen BK450.out 0
     have hfz14_1 := blk_frozen BK450.out 1
     go_upto_region 7 with (first | (go_at_call 39; (with_reducible refine (turndownlaw06_mod.calls a1_0 15 t452 _ A10.out).mono ?_); rintro e w' ⟨rfl, ⟨nd, rfl⟩⟩; (try first | exact ⟨rfl, _, World.drewN_drewN _ _ _⟩ | exact ⟨rfl, _, Eq.trans (World.drewN_drewN _ _ _) (congrArg (World.drewN _) (Nat.add_assoc _ _ _))⟩)) | (go_at_call 39; (with_reducible refine (turndownlaw06_mod.calls a1_1 15 t453 _ A11.out).mono ?_); rintro e w' ⟨rfl, ⟨nd, rfl⟩⟩; (try first | exact ⟨rfl, _, World.drewN_drewN _ _ _⟩ | exact ⟨rfl, _, Eq.trans (World.drewN_drewN _ _ _) (congrArg (World.drewN _) (Nat.add_assoc _ _ _))⟩)) | (go_at_call 34; (with_reducible refine (code_Read.calls k1 x5_1 (wrap64 (1 + t452)) (wrap64 (1 + t453)) t454 t455 t456 _ A12.out).mono ?_); rintro e w15 ⟨rfl, hb⟩; have n0_ := Aside0.mk (blk_below (g := gb450) (o := .cells #[.int .i64 a1_0, .int .i64 a1_1] 38 (0, 0)) (by (with_reducible repeat (first | refine blk_drewN ?_ _ | refine blk_drew ?_ | refine blk_alloc ?_ _)); exact BK450.out) hb); have n1_ := Aside0.mk (below_step (by repeat (first | (with_reducible first | exact HB.out | apply below_alloc | apply pw_below_drewN | apply below_drew1 | refine below_set ?_ GE450.out) | exact HB.out)) hb); clear BK450; clear HB; have BK450 := n0_; have HB := n1_; clear n0_ n1_; (try clear hb); (try clear hb2); (try clear hk); (try clear hi)))
     repeat (go_quiet (first | (go_at_call 39; (with_reducible refine (turndownlaw06_mod.calls a1_0 15 t452 _ A10.out).mono ?_); rintro e w' ⟨rfl, ⟨nd, rfl⟩⟩; (try first | exact ⟨rfl, _, World.drewN_drewN _ _ _⟩ | exact ⟨rfl, _, Eq.trans (World.drewN_drewN _ _ _) (congrArg (World.drewN _) (Nat.add_assoc _ _ _))⟩)) | (go_at_call 39; (with_reducible refine (turndownlaw06_mod.calls a1_1 15 t453 _ A11.out).mono ?_); rintro e w' ⟨rfl, ⟨nd, rfl⟩⟩; (try first | exact ⟨rfl, _, World.drewN_drewN _ _ _⟩ | exact ⟨rfl, _, Eq.trans (World.drewN_drewN _ _ _) (congrArg (World.drewN _) (Nat.add_assoc _ _ _))⟩)) | (go_at_call 34; (with_reducible refine (code_Read.calls k1 x5_1 (wrap64 (1 + t452)) (wrap64 (1 + t453)) t454 t455 t456 _ A12.out).mono ?_); rintro e w15 ⟨rfl, hb⟩; have n0_ := Aside0.mk (blk_below (g := gb450) (o := .cells #[.int .i64 a1_0, .int .i64 a1_1] 38 (0, 0)) (by (with_reducible repeat (first | refine blk_drewN ?_ _ | refine blk_drew ?_ | refine blk_alloc ?_ _)); exact BK450.out) hb); have n1_ := Aside0.mk (below_step (by repeat (first | (with_reducible first | exact HB.out | apply below_alloc | apply pw_below_drewN | apply below_drew1 | refine below_set ?_ GE450.out) | exact HB.out)) hb); clear BK450; clear HB; have BK450 := n0_; have HB := n1_; clear n0_ n1_; (try clear hb); (try clear hb2); (try clear hk); (try clear hi))); go_upto_region 7 with (first | (go_at_call 39; (with_reducible refine (turndownlaw06_mod.calls a1_0 15 t452 _ A10.out).mono ?_); rintro e w' ⟨rfl, ⟨nd, rfl⟩⟩; (try first | exact ⟨rfl, _, World.drewN_drewN _ _ _⟩ | exact ⟨rfl, _, Eq.trans (World.drewN_drewN _ _ _) (congrArg (World.drewN _) (Nat.add_assoc _ _ _))⟩)) | (go_at_call 39; (with_reducible refine (turndownlaw06_mod.calls a1_1 15 t453 _ A11.out).mono ?_); rintro e w' ⟨rfl, ⟨nd, rfl⟩⟩; (try first | exact ⟨rfl, _, World.drewN_drewN _ _ _⟩ | exact ⟨rfl, _, Eq.trans (World.drewN_drewN _ _ _) (congrArg (World.drewN _) (Nat.add_assoc _ _ _))⟩)) | (go_at_call 34; (with_reducible refine (code_Read.calls k1 x5_1 (wrap64 (1 + t452)) (wrap64 (1 + t453)) t454 t455 t456 _ A12.out).mono ?_); rintro e w15 ⟨rfl, hb⟩; have n0_ := Aside0.mk (blk_below (g := gb450) (o := .cells #[.int .i64 a1_0, .int .i64 a1_1] 38 (0, 0)) (by (with_reducible repeat (first | refine blk_drewN ?_ _ | refine blk_drew ?_ | refine blk_alloc ?_ _)); exact BK450.out) hb); have n1_ := Aside0.mk (below_step (by repeat (first | (with_reducible first | exact HB.out | apply below_alloc | apply pw_below_drewN | apply below_drew1 | refine below_set ?_ GE450.out) | exact HB.out)) hb); clear BK450; clear HB; have BK450 := n0_; have HB := n1_; clear n0_ n1_; (try clear hb); (try clear hb2); (try clear hk); (try clear hi))))
     (try simp only [Act.put, List.setIfInBounds_toArray, List.set_cons_zero, List.set_cons_succ])
     go_cut [64] (fun v64 wc => ∃ (kq : Nat) (x64_12 : Bool), v64 = .bool x64_12 ∧ Aside0 (turndownlaw06_CodeNearest.j1 kq x5_1 (wrap64 (1 + t452)) (wrap64 (1 + t453)) t454 t455 jz x64_12 = some r) ∧ Aside0 (kq ≤ k1) ∧ Aside0 (wc.heap[gb450]? = some (.cells #[.int .i64 a1_0, .int .i64 a1_1] 38 (0, 0))) ∧ Aside0 (Below w.heap.size w wc))
     case first =>
      have H := HC13.out
      clear HC13
      by_cases c16 : t456 = 0
      ·
       rw [if_pos c16] at H
       have c16b0 : (t456 == 0) = true := beq_iff_eq.mpr c16
       have c16b1 : (t456 != 0) = false := bne_eq_false_iff_eq.mpr c16
       clear c16
       (first | rw [c16b0] | (simp only [i64_w, i32_w]; rw [c16b0]) | skip)
       by_cases c17 : (t454.size : Int) = jz
       ·
        rw [if_pos c17] at H
        have c17b0 : ((t454.size : Int) == jz) = true := beq_iff_eq.mpr c17
        have c17b1 : ((t454.size : Int) != jz) = false := bne_eq_false_iff_eq.mpr c17
        clear c17
        replace H := Option.bind_eq_some_iff.mp H
        obtain ⟨t457, A180, H⟩ := H
        replace H : (turndownlaw06_CodeNearest.j1 k1 x5_1 (wrap64 (1 + t452)) (wrap64 (1 + t453)) t454 t455 jz (!t457)) = some r := H
        have A18 := Aside0.mk A180
        clear A180
        have H' := Aside0.mk H
        clear H
        go_wp2_with (first | (go_at_call 31; (with_reducible refine (turndownref06_Bits.calls k1 t454 t457 _ A18.out).mono ?_); rintro e w' ⟨rfl, ⟨nd, rfl⟩⟩; (try first | exact ⟨rfl, _, World.drewN_drewN _ _ _⟩ | exact ⟨rfl, _, Eq.trans (World.drewN_drewN _ _ _) (congrArg (World.drewN _) (Nat.add_assoc _ _ _))⟩)))
        repeat (go_quiet (first | (go_at_call 31; (with_reducible refine (turndownref06_Bits.calls k1 t454 t457 _ A18.out).mono ?_); rintro e w' ⟨rfl, ⟨nd, rfl⟩⟩; (try first | exact ⟨rfl, _, World.drewN_drewN _ _ _⟩ | exact ⟨rfl, _, Eq.trans (World.drewN_drewN _ _ _) (congrArg (World.drewN _) (Nat.add_assoc _ _ _))⟩))); try go_wp2_with (first | (go_at_call 31; (with_reducible refine (turndownref06_Bits.calls k1 t454 t457 _ A18.out).mono ?_); rintro e w' ⟨rfl, ⟨nd, rfl⟩⟩; (try first | exact ⟨rfl, _, World.drewN_drewN _ _ _⟩ | exact ⟨rfl, _, Eq.trans (World.drewN_drewN _ _ _) (congrArg (World.drewN _) (Nat.add_assoc _ _ _))⟩))))
        go_meet
        case rel => exact ⟨_, (!t457), (by first | rfl | (simp; done) | (simp [*]; done)), H', ⟨by have := HK1.out; first | omega | exact Nat.le_refl _⟩, ⟨by (with_reducible repeat (first | refine blk_drewN ?_ _ | refine blk_drew ?_ | refine blk_alloc ?_ _)); exact BK450.out⟩, ⟨by repeat (first | (with_reducible first | exact HB.out | apply below_alloc | apply pw_below_drewN | apply below_drew1 | refine below_set ?_ GE450.out) | exact HB.out)⟩⟩
       ·
        rw [if_neg c17] at H
        have c17b0 : ((t454.size : Int) == jz) = false := beq_eq_false_iff_ne.mpr c17
        have c17b1 : ((t454.size : Int) != jz) = true := bne_iff_ne.mpr c17
        have H' := Aside0.mk H
        clear H
        go_wp2
        repeat (go_quiet (fail); try go_wp2)
        go_meet
        case rel => exact ⟨_, (true), (by first | rfl | (simp; done) | (simp [*]; done)), H', ⟨by have := HK1.out; first | omega | exact Nat.le_refl _⟩, ⟨by (with_reducible repeat (first | refine blk_drewN ?_ _ | refine blk_drew ?_ | refine blk_alloc ?_ _)); exact BK450.out⟩, ⟨by repeat (first | (with_reducible first | exact HB.out | apply below_alloc | apply pw_below_drewN | apply below_drew1 | refine below_set ?_ GE450.out) | exact HB.out)⟩⟩
      ·
       rw [if_neg c16] at H
       have c16b0 : (t456 == 0) = false := beq_eq_false_iff_ne.mpr c16
       have c16b1 : (t456 != 0) = true := bne_iff_ne.mpr c16
       (first | rw [c16b0] | (simp only [i64_w, i32_w]; rw [c16b0]) | skip)
       have H' := Aside0.mk H
       clear H
       go_wp2
       repeat (go_quiet (fail); try go_wp2)
       go_meet
       case rel => exact ⟨_, (true), (by first | rfl | (simp; done) | (simp [*]; done)), H', ⟨by have := HK1.out; first | omega | exact Nat.le_refl _⟩, ⟨by (with_reducible repeat (first | refine blk_drewN ?_ _ | refine blk_drew ?_ | refine blk_alloc ?_ _)); exact BK450.out⟩, ⟨by repeat (first | (with_reducible first | exact HB.out | apply below_alloc | apply pw_below_drewN | apply below_drew1 | refine below_set ?_ GE450.out) | exact HB.out)⟩⟩
     case rest =>
      clear HC13
      try clear c1
      try clear p2
      try clear c6
      try clear c6b0
      try clear c6b1
      try clear p6
      try clear c7
      try clear c7b0
      try clear c7b1
      try clear c7b2
      try clear c8
      try clear c8b0
      try clear c8b1
      try clear c9
      try clear c9b0
      try clear c9b1
      try clear c9b2
      try clear c13
      try clear c16
      try clear c16b0
      try clear c16b1
      try clear c17
      try clear c17b0
      try clear c17b1
      try clear hcz14_0
      try clear hcz14_1
      try clear hfz14_0
      try clear hfz14_1
      try clear p2
      obtain ⟨kq, x64_12, rfl, HA, HJ12, BK450, HB⟩ := hcut
      cases kq with
      | zero => exact absurd HA.out (by simp [turndownlaw06_CodeNearest.j1])
      | succ kj12 =>
       have H := HA.out
       clear HA
       simp only [turndownlaw06_CodeNearest.j1] at H
       by_cases c19 : x64_12 = true
       ·
        subst c19
        have H1 : (some false) = some r := by rw [if_pos rfl] at H; exact H
        clear H
        have H := H1
        clear H1
        obtain rfl := Option.some.inj H
        go_wp2
        repeat (go_quiet (fail); try go_wp2)
        go_ret
        exact ⟨by first | rfl | (simp [errW_none, errW_some] <;> rfl) | (simp [*, errW_none, errW_some] <;> rfl), by repeat (first | (with_reducible first | exact HB.out | apply below_alloc | apply pw_below_drewN | apply below_drew1 | refine below_set ?_ GE450.out) | exact HB.out)⟩
       ·
        replace c19 := Bool.eq_false_iff.mpr c19
        subst c19
        have H1 : (turndownlaw06_CodeNearest.l1 kj12 x5_1 (wrap64 (1 + t452)) (wrap64 (1 + t453)) t454 t455 jz 0) = some r := by rw [if_neg (show ¬ (false = true) by decide)] at H; exact H
        clear H
        have H := H1
        clear H1
        have H' := Aside0.mk H
        clear H
        go_wp2
        repeat (go_quiet (fail); try go_wp2)
        go_loopg [12] kj12 (fun kq v12 w' => ∃ (x12_3 : Int), v12 = .int .i64 x12_3 ∧ Aside0 (turndownlaw06_CodeNearest.l1 kq x5_1 (wrap64 (1 + t452)) (wrap64 (1 + t453)) t454 t455 jz x12_3 = some r) ∧ Aside0 (kq ≤ kj12) ∧ Aside0 (w'.heap[gb450]? = some (.cells #[.int .i64 a1_0, .int .i64 a1_1] 38 (0, 0))) ∧ Aside0 (Below w.heap.size w w'))
        case atStart => exact ⟨(0), (by first | rfl | (simp; done) | (simp [*]; done)), H', ⟨Nat.le_refl _⟩, ⟨by (with_reducible repeat (first | refine blk_drewN ?_ _ | refine blk_drew ?_ | refine blk_alloc ?_ _)); exact BK450.out⟩, ⟨by repeat (first | (with_reducible first | exact HB.out | apply below_alloc | apply pw_below_drewN | apply below_drew1 | refine below_set ?_ GE450.out) | exact HB.out)⟩⟩
        case round =>
         clear H'
         try clear c1
         try clear p2
         try clear c6
         try clear c6b0
         try clear c6b1
         try clear p6
         try clear c7
         try clear c7b0
         try clear c7b1
         try clear c7b2
         try clear c8
         try clear c8b0
         try clear c8b1
         try clear c9
         try clear c9b0
         try clear c9b1
         try clear c9b2
         try clear c13
         try clear c16
         try clear c16b0
         try clear c16b1
         try clear c17
         try clear c17b0
         try clear c17b1
         try clear c19
         try clear hcz14_0
         try clear hcz14_1
         try clear hfz14_0
         try clear hfz14_1
         try clear p2
         try clear p6
         obtain ⟨x12_3, rfl, HA, HK3, BK450, HB⟩ := hrel
         cases gk with
         | zero => exact absurd HA.out (by simp [turndownlaw06_CodeNearest.l1])
         | succ k3 =>
          have H := HA.out
          clear HA
          simp only [turndownlaw06_CodeNearest.l1] at H
          by_cases c21 : 0 ≤ (jz)
          ·
           rw [if_pos c21] at H
           have c21b0 := eq_true c21
           have c21b1 : decide (0 ≤ (jz)) = true := decide_eq_true c21
           clear c21
           obtain ⟨ji22, hji22⟩ : ∃ j_ : Int, (shl .i64 1 (jz)) = j_ := ⟨_, rfl⟩
           replace H : (if x12_3 < (ji22) then (turndownlaw06_CodeNearest.l2 k3 x5_1 (wrap64 (1 + t452)) (wrap64 (1 + t453)) t454 t455 (jz) x12_3 (⟨#[]⟩ : ByteArray) (wrap64 ((jz) - 1))) else ((turndownlaw06_awake.f k3).bind fun t458 => (some t458))) = some r := by first | (rw [hji22] at H; exact H) | (simp only [hji22] at H ⊢; exact H)
           have hji22_ : (IntKind.i64.wrap (1 * 2 ^ min (jz).toNat 64)) = ji22 := hji22
           have hji22z : (jz) ≤ 64 → (IntKind.i64.wrap (1 * 2 ^ (jz).toNat)) = ji22 := shl_small hji22
           have hji22u : (IntKind.i64.wrap (2 ^ min (jz).toNat 64)) = ji22 := by have h_ := hji22_; rw [Int.one_mul] at h_; exact h_
           have hji22v : (jz) ≤ 64 → (IntKind.i64.wrap (2 ^ (jz).toNat)) = ji22 := fun hle_ => by have h_ := hji22z hle_; rw [Int.one_mul] at h_; exact h_
           have hji22y : (wrap64 (1 * 2 ^ min (jz).toNat 64)) = ji22 := (i64_w _).symm.trans hji22_
           have hji22x : (jz) ≤ 64 → (wrap64 (1 * 2 ^ (jz).toNat)) = ji22 := fun h_ => (i64_w _).symm.trans (hji22z h_)
           by_cases c23 : x12_3 < (ji22)
           ·
            rw [if_pos c23] at H
            have c23b0 : decide (x12_3 < (ji22)) = true := decide_eq_true c23
            clear c23
            have H' := Aside0.mk H
            clear H
            go_wp2
            repeat (go_quiet (fail); try go_wp2)
            go_loopg [13, 14] k3 (fun kq v13 v14 w' => ∃ (x13_4 : ByteArray) (x14_4 : Int), v13 = .string x13_4 ∧ v14 = .int .i64 x14_4 ∧ Aside0 (turndownlaw06_CodeNearest.l2 kq x5_1 (wrap64 (1 + t452)) (wrap64 (1 + t453)) t454 t455 (jz) x12_3 x13_4 x14_4 = some r) ∧ Aside0 (kq ≤ k3) ∧ Aside0 (w'.heap[gb450]? = some (.cells #[.int .i64 a1_0, .int .i64 a1_1] 38 (0, 0))) ∧ Aside0 (Below w.heap.size w w'))
            case atStart => exact ⟨((⟨#[]⟩ : ByteArray)), (wrap64 ((jz) - 1)), (by first | rfl | (simp; done) | (simp [*]; done)), (by first | rfl | (simp; done) | (simp only [← hjz] <;> (first | rfl | simp)) | (simp [*]; done)), H', ⟨Nat.le_refl _⟩, ⟨by (with_reducible repeat (first | refine blk_drewN ?_ _ | refine blk_drew ?_ | refine blk_alloc ?_ _)); exact BK450.out⟩, ⟨by repeat (first | (with_reducible first | exact HB.out | apply below_alloc | apply pw_below_drewN | apply below_drew1 | refine below_set ?_ GE450.out) | exact HB.out)⟩⟩
            case round =>
             clear H'
             try clear c1
             try clear c2
             try clear p2
             try clear c6
             try clear c6b0
             try clear c6b1
             try clear p6
             try clear c7
             try clear c7b0
             try clear c7b1
             try clear c7b2
             try clear c8
             try clear c8b0
             try clear c8b1
             try clear c9
             try clear c9b0
             try clear c9b1
             try clear c9b2
             try clear c13
             try clear c16
             try clear c16b0
             try clear c16b1
             try clear c17
             try clear c17b0
             try clear c17b1
             try clear c19
             try clear c21
             try clear c21b0
             try clear c21b1
             try clear c23
             try clear c23b0
             try clear hcz14_0
             try clear hcz14_1
             try clear hfz14_0
             try clear hfz14_1
             try clear p2
             try clear p6
             obtain ⟨x13_4, x14_4, rfl, rfl, HA, HK4, BK450, HB⟩ := hrel
             cases gk with
             | zero => exact absurd HA.out (by simp [turndownlaw06_CodeNearest.l2])
             | succ k4 =>
              have H := HA.out
              clear HA
              simp only [turndownlaw06_CodeNearest.l2] at H
              by_cases c24 : x14_4 ≥ 0
              ·
               rw [if_pos c24] at H
               have c24b0 : decide (0 ≤ x14_4) = true := decide_eq_true c24
               clear c24
               by_cases c25 : 0 ≤ x14_4
               ·
                rw [if_pos c25] at H
                have c25b0 := eq_true c25
                have c25b1 : decide (0 ≤ x14_4) = true := decide_eq_true c25
                clear c25
                obtain ⟨ji26, hji26⟩ : ∃ j_ : Int, (shr .i64 x12_3 x14_4) = j_ := ⟨_, rfl⟩
                replace H : ((some (([(wrap64 (48 + (Int.tmod (ji26) 2))) % 256] : List Int) : List Int)).bind fun y459 => (if x13_4.size + (strOfNums y459).size ≤ 9223372036854775807 then (turndownlaw06_CodeNearest.l2 k4 x5_1 (wrap64 (1 + t452)) (wrap64 (1 + t453)) t454 t455 (jz) x12_3 (x13_4 ++ (strOfNums y459)) (wrap64 (x14_4 - 1))) else (none))) = some r := by first | (rw [hji26] at H; exact H) | (simp only [hji26] at H ⊢; exact H)
                have hji26_ : (x12_3 / 2 ^ min x14_4.toNat 64) = ji26 := hji26
                have hji26z : x14_4 ≤ 64 → (x12_3 / 2 ^ x14_4.toNat) = ji26 := shr_small hji26
                obtain ⟨y459, hy459⟩ : ∃ y_ : List Int, y_ = (([(wrap64 (48 + (Int.tmod (ji26) 2))) % 256] : List Int)) := ⟨_, rfl⟩
                replace H : (if x13_4.size + (strOfNums y459).size ≤ 9223372036854775807 then (turndownlaw06_CodeNearest.l2 k4 x5_1 (wrap64 (1 + t452)) (wrap64 (1 + t453)) t454 t455 (jz) x12_3 (x13_4 ++ (strOfNums y459)) (wrap64 (x14_4 - 1))) else (none)) = some r := by first | (rw [hy459]; with_reducible exact H) | (have H2_ := (Option.bind_some _ _).symm.trans H; rw [hy459]; with_reducible exact H2_) | (have H2_ := (Option.bind_some _ _).symm.trans H; with_reducible exact H2_) | with_reducible exact H | (rw [hy459]; exact H) | exact H
                have Ny459 := Aside0.mk hy459
                clear hy459
                by_cases c27 : x13_4.size + (strOfNums y459).size ≤ 9223372036854775807
                ·
                 rw [if_pos c27] at H
                 have c27b0 := eq_true c27
                 have c27b1 : decide (x13_4.size + (strOfNums y459).size ≤ 9223372036854775807) = true := decide_eq_true c27
                 try have c27b2 : (9223372036854775807 < x13_4.size + (strOfNums y459).size) = False := eq_false (Nat.not_lt.2 c27)
                 have H' := Aside0.mk H
                 clear H
                 go_wp2_with (first | ((with_reducible refine gate_dst (N := 84) rfl ?_); (try (refine gate_guard (by rfl) ?_; dsimp only)); refine Kd.R_lit (Kd.int .u8) _ 5 ?hg (N := 84) ?hd (xs := ([(wrap64 (48 + (Int.tmod (ji26) 2))) % 256] : List Int)) (inner := [.int .u8 ((wrap64 (48 + (Int.tmod (ji26) 2))) % 256)]) (ok := fun _ => True) (okp := fun _ => True) ?hr ?hp (fun _ hk => hk) trivial (Below.refl _ _) (Nat.le_refl _) (by simp) ?_; (case hd => rfl); (case hg => rfl); (case hr => first | (go_simp; done) | (go_simp; rfl)); (case hp => exact (Reps.one (show Kd.M (Kd.int .u8) _ _ _ ((wrap64 (48 + (Int.tmod (ji26) 2))) % 256) [.int .u8 ((wrap64 (48 + (Int.tmod (ji26) 2))) % 256)] from rfl) (Reps.none _ _))); intro v460 w28 ho29 hb hg_ hnew_; clear hg_ hnew_; (first | rw [← Ny459.out] at ho29 | (simp only [Int.reduceToNat] at ho29; rw [← Ny459.out] at ho29)); have n0_ := Aside0.mk (Kd.R_lower ho29 (below_size (by repeat (first | (with_reducible first | exact HB.out | apply below_alloc | apply pw_below_drewN | apply below_drew1 | refine below_set ?_ GE450.out) | exact HB.out)))); have n1_ := Aside0.mk (blk_below (g := gb450) (o := .cells #[.int .i64 a1_0, .int .i64 a1_1] 38 (0, 0)) (by (with_reducible repeat (first | refine blk_drewN ?_ _ | refine blk_drew ?_ | refine blk_alloc ?_ _)); exact BK450.out) hb); have n2_ := Aside0.mk (below_step (by repeat (first | (with_reducible first | exact HB.out | apply below_alloc | apply pw_below_drewN | apply below_drew1 | refine below_set ?_ GE450.out) | exact HB.out)) hb); clear BK450; clear HB; have HO461 := n0_; have BK450 := n1_; have HB := n2_; clear n0_ n1_ n2_; clear hb ho29; have hcv30 := own_string (P := Try.prog) Try.underlying59 Try.underlying5 Try.underlying9 (Kd.own_of_R HO461.out)))
                 repeat (go_quiet (first | ((with_reducible refine gate_dst (N := 84) rfl ?_); (try (refine gate_guard (by rfl) ?_; dsimp only)); refine Kd.R_lit (Kd.int .u8) _ 5 ?hg (N := 84) ?hd (xs := ([(wrap64 (48 + (Int.tmod (ji26) 2))) % 256] : List Int)) (inner := [.int .u8 ((wrap64 (48 + (Int.tmod (ji26) 2))) % 256)]) (ok := fun _ => True) (okp := fun _ => True) ?hr ?hp (fun _ hk => hk) trivial (Below.refl _ _) (Nat.le_refl _) (by simp) ?_; (case hd => rfl); (case hg => rfl); (case hr => first | (go_simp; done) | (go_simp; rfl)); (case hp => exact (Reps.one (show Kd.M (Kd.int .u8) _ _ _ ((wrap64 (48 + (Int.tmod (ji26) 2))) % 256) [.int .u8 ((wrap64 (48 + (Int.tmod (ji26) 2))) % 256)] from rfl) (Reps.none _ _))); intro v460 w28 ho29 hb hg_ hnew_; clear hg_ hnew_; (first | rw [← Ny459.out] at ho29 | (simp only [Int.reduceToNat] at ho29; rw [← Ny459.out] at ho29)); have n0_ := Aside0.mk (Kd.R_lower ho29 (below_size (by repeat (first | (with_reducible first | exact HB.out | apply below_alloc | apply pw_below_drewN | apply below_drew1 | refine below_set ?_ GE450.out) | exact HB.out)))); have n1_ := Aside0.mk (blk_below (g := gb450) (o := .cells #[.int .i64 a1_0, .int .i64 a1_1] 38 (0, 0)) (by (with_reducible repeat (first | refine blk_drewN ?_ _ | refine blk_drew ?_ | refine blk_alloc ?_ _)); exact BK450.out) hb); have n2_ := Aside0.mk (below_step (by repeat (first | (with_reducible first | exact HB.out | apply below_alloc | apply pw_below_drewN | apply below_drew1 | refine below_set ?_ GE450.out) | exact HB.out)) hb); clear BK450; clear HB; have HO461 := n0_; have BK450 := n1_; have HB := n2_; clear n0_ n1_ n2_; clear hb ho29; have hcv30 := own_string (P := Try.prog) Try.underlying59 Try.underlying5 Try.underlying9 (Kd.own_of_R HO461.out))); try go_wp2_with (first | ((with_reducible refine gate_dst (N := 84) rfl ?_); (try (refine gate_guard (by rfl) ?_; dsimp only)); refine Kd.R_lit (Kd.int .u8) _ 5 ?hg (N := 84) ?hd (xs := ([(wrap64 (48 + (Int.tmod (ji26) 2))) % 256] : List Int)) (inner := [.int .u8 ((wrap64 (48 + (Int.tmod (ji26) 2))) % 256)]) (ok := fun _ => True) (okp := fun _ => True) ?hr ?hp (fun _ hk => hk) trivial (Below.refl _ _) (Nat.le_refl _) (by simp) ?_; (case hd => rfl); (case hg => rfl); (case hr => first | (go_simp; done) | (go_simp; rfl)); (case hp => exact (Reps.one (show Kd.M (Kd.int .u8) _ _ _ ((wrap64 (48 + (Int.tmod (ji26) 2))) % 256) [.int .u8 ((wrap64 (48 + (Int.tmod (ji26) 2))) % 256)] from rfl) (Reps.none _ _))); intro v460 w28 ho29 hb hg_ hnew_; clear hg_ hnew_; (first | rw [← Ny459.out] at ho29 | (simp only [Int.reduceToNat] at ho29; rw [← Ny459.out] at ho29)); have n0_ := Aside0.mk (Kd.R_lower ho29 (below_size (by repeat (first | (with_reducible first | exact HB.out | apply below_alloc | apply pw_below_drewN | apply below_drew1 | refine below_set ?_ GE450.out) | exact HB.out)))); have n1_ := Aside0.mk (blk_below (g := gb450) (o := .cells #[.int .i64 a1_0, .int .i64 a1_1] 38 (0, 0)) (by (with_reducible repeat (first | refine blk_drewN ?_ _ | refine blk_drew ?_ | refine blk_alloc ?_ _)); exact BK450.out) hb); have n2_ := Aside0.mk (below_step (by repeat (first | (with_reducible first | exact HB.out | apply below_alloc | apply pw_below_drewN | apply below_drew1 | refine below_set ?_ GE450.out) | exact HB.out)) hb); clear BK450; clear HB; have HO461 := n0_; have BK450 := n1_; have HB := n2_; clear n0_ n1_ n2_; clear hb ho29; have hcv30 := own_string (P := Try.prog) Try.underlying59 Try.underlying5 Try.underlying9 (Kd.own_of_R HO461.out))))
                 go_roundg k4
                 case measure => have := HK1.out; have := HJ12.out; have := HK3.out; have := HK4.out; omega
                 case rel => exact ⟨(x13_4 ++ (strOfNums y459)), (wrap64 (x14_4 - 1)), (by first | rfl | (simp; done) | (simp [*]; done)), (by first | rfl | (simp; done) | (simp [*]; done)), H', ⟨by have := HK1.out; have := HJ12.out; have := HK3.out; have := HK4.out; omega⟩, ⟨by (with_reducible repeat (first | refine blk_drewN ?_ _ | refine blk_drew ?_ | refine blk_alloc ?_ _)); exact BK450.out⟩, ⟨by repeat (first | (with_reducible first | exact HB.out | apply below_alloc | apply pw_below_drewN | apply below_drew1 | refine below_set ?_ GE450.out) | exact HB.out)⟩⟩
                ·
                 rw [if_neg c27] at H
                 exact absurd H (by simp)
               ·
                rw [if_neg c25] at H
                exact absurd H (by simp)
              ·
               rw [if_neg c24] at H
               have c24b0 : decide (0 ≤ x14_4) = false := decide_eq_false c24
               clear c24
               replace H := Option.bind_eq_some_iff.mp H
               obtain ⟨⟨t462, t463⟩, A310, H⟩ := H
               replace H : (if t463 = 0 then (turndownlaw06_CodeNearest.j4 k4 x5_1 (wrap64 (1 + t452)) (wrap64 (1 + t453)) t454 t455 (jz) x12_3 x13_4 t462 ((t462.size : Int) != (x5_1.size : Int))) else (turndownlaw06_CodeNearest.j4 k4 x5_1 (wrap64 (1 + t452)) (wrap64 (1 + t453)) t454 t455 (jz) x12_3 x13_4 t462 true)) = some r := H
               have A31 := Aside0.mk A310
               clear A310
               have HC32 := Aside0.mk H
               clear H
               go_upto_region 18 with (first | (go_at_call 30; (with_reducible refine (code_Card.calls k4 x13_4 (wrap64 (1 + t452)) (wrap64 (1 + t453)) t462 t463 _ A31.out).mono ?_); rintro e w33 ⟨rfl, hb⟩; have n0_ := Aside0.mk (blk_below (g := gb450) (o := .cells #[.int .i64 a1_0, .int .i64 a1_1] 38 (0, 0)) (by (with_reducible repeat (first | refine blk_drewN ?_ _ | refine blk_drew ?_ | refine blk_alloc ?_ _)); exact BK450.out) hb); have n1_ := Aside0.mk (below_step (by repeat (first | (with_reducible first | exact HB.out | apply below_alloc | apply pw_below_drewN | apply below_drew1 | refine below_set ?_ GE450.out) | exact HB.out)) hb); clear BK450; clear HB; have BK450 := n0_; have HB := n1_; clear n0_ n1_; (try clear hb); (try clear hb2); (try clear hk); (try clear hi)))
               repeat (go_quiet (first | (go_at_call 30; (with_reducible refine (code_Card.calls k4 x13_4 (wrap64 (1 + t452)) (wrap64 (1 + t453)) t462 t463 _ A31.out).mono ?_); rintro e w33 ⟨rfl, hb⟩; have n0_ := Aside0.mk (blk_below (g := gb450) (o := .cells #[.int .i64 a1_0, .int .i64 a1_1] 38 (0, 0)) (by (with_reducible repeat (first | refine blk_drewN ?_ _ | refine blk_drew ?_ | refine blk_alloc ?_ _)); exact BK450.out) hb); have n1_ := Aside0.mk (below_step (by repeat (first | (with_reducible first | exact HB.out | apply below_alloc | apply pw_below_drewN | apply below_drew1 | refine below_set ?_ GE450.out) | exact HB.out)) hb); clear BK450; clear HB; have BK450 := n0_; have HB := n1_; clear n0_ n1_; (try clear hb); (try clear hb2); (try clear hk); (try clear hi))); go_upto_region 18 with (first | (go_at_call 30; (with_reducible refine (code_Card.calls k4 x13_4 (wrap64 (1 + t452)) (wrap64 (1 + t453)) t462 t463 _ A31.out).mono ?_); rintro e w33 ⟨rfl, hb⟩; have n0_ := Aside0.mk (blk_below (g := gb450) (o := .cells #[.int .i64 a1_0, .int .i64 a1_1] 38 (0, 0)) (by (with_reducible repeat (first | refine blk_drewN ?_ _ | refine blk_drew ?_ | refine blk_alloc ?_ _)); exact BK450.out) hb); have n1_ := Aside0.mk (below_step (by repeat (first | (with_reducible first | exact HB.out | apply below_alloc | apply pw_below_drewN | apply below_drew1 | refine below_set ?_ GE450.out) | exact HB.out)) hb); clear BK450; clear HB; have BK450 := n0_; have HB := n1_; clear n0_ n1_; (try clear hb); (try clear hb2); (try clear hk); (try clear hi))))
               (try simp only [Act.put, List.setIfInBounds_toArray, List.set_cons_zero, List.set_cons_succ])
               go_cut [102] (fun v102 wc => ∃ (kq : Nat) (x102_31 : Bool), v102 = .bool x102_31 ∧ Aside0 (turndownlaw06_CodeNearest.j4 kq x5_1 (wrap64 (1 + t452)) (wrap64 (1 + t453)) t454 t455 (jz) x12_3 x13_4 t462 x102_31 = some r) ∧ Aside0 (kq ≤ k4) ∧ Aside0 (wc.heap[gb450]? = some (.cells #[.int .i64 a1_0, .int .i64 a1_1] 38 (0, 0))) ∧ Aside0 (Below w.heap.size w wc))
               case first =>
                have H := HC32.out
                clear HC32
                by_cases c34 : t463 = 0
                ·
                 rw [if_pos c34] at H
                 have c34b0 : (t463 == 0) = true := beq_iff_eq.mpr c34
                 have c34b1 : (t463 != 0) = false := bne_eq_false_iff_eq.mpr c34
                 clear c34
                 (first | rw [c34b0] | (simp only [i64_w, i32_w]; rw [c34b0]) | skip)
                 have H' := Aside0.mk H
                 clear H
                 go_wp2
                 repeat (go_quiet (fail); try go_wp2)
                 go_meet
                 case rel => exact ⟨_, (((t462.size : Int) != (x5_1.size : Int))), (by first | rfl | (simp; done) | (simp [*]; done)), H', ⟨by have := HK1.out; have := HJ12.out; have := HK3.out; have := HK4.out; first | omega | exact Nat.le_refl _⟩, ⟨by (with_reducible repeat (first | refine blk_drewN ?_ _ | refine blk_drew ?_ | refine blk_alloc ?_ _)); exact BK450.out⟩, ⟨by repeat (first | (with_reducible first | exact HB.out | apply below_alloc | apply pw_below_drewN | apply below_drew1 | refine below_set ?_ GE450.out) | exact HB.out)⟩⟩
                ·
                 rw [if_neg c34] at H
                 have c34b0 : (t463 == 0) = false := beq_eq_false_iff_ne.mpr c34
                 have c34b1 : (t463 != 0) = true := bne_iff_ne.mpr c34
                 (first | rw [c34b0] | (simp only [i64_w, i32_w]; rw [c34b0]) | skip)
                 have H' := Aside0.mk H
                 clear H
                 go_wp2
                 repeat (go_quiet (fail); try go_wp2)
                 go_meet
                 case rel => exact ⟨_, (true), (by first | rfl | (simp; done) | (simp [*]; done)), H', ⟨by have := HK1.out; have := HJ12.out; have := HK3.out; have := HK4.out; first | omega | exact Nat.le_refl _⟩, ⟨by (with_reducible repeat (first | refine blk_drewN ?_ _ | refine blk_drew ?_ | refine blk_alloc ?_ _)); exact BK450.out⟩, ⟨by repeat (first | (with_reducible first | exact HB.out | apply below_alloc | apply pw_below_drewN | apply below_drew1 | refine below_set ?_ GE450.out) | exact HB.out)⟩⟩
               case rest =>
                clear HC32
                try clear c1
                try clear c2
                try clear p2
                try clear c3
                try clear hcv3
                try clear c6
                try clear c6b0
                try clear c6b1
                try clear p6
                try clear c7
                try clear c7b0
                try clear c7b1
                try clear c7b2
                try clear c8
                try clear c8b0
                try clear c8b1
                try clear c9
                try clear c9b0
                try clear c9b1
                try clear c9b2
                try clear c13
                try clear c16
                try clear c16b0
                try clear c16b1
                try clear c17
                try clear c17b0
                try clear c17b1
                try clear c19
                try clear c21
                try clear c21b0
                try clear c21b1
                try clear c23
                try clear c23b0
                try clear c24
                try clear c24b0
                try clear c25
                try clear c25b0
                try clear c25b1
                try clear c27
                try clear c27b0
                try clear c27b1
                try clear c27b2
                try clear hcv30
                try clear c34
                try clear c34b0
                try clear c34b1
                try clear hcz14_0
                try clear hcz14_1
                try clear hfz14_0
                try clear hfz14_1
                try clear p2
                try clear p6
                obtain ⟨kq, x102_31, rfl, HA, HJ31, BK450, HB⟩ := hcut
                cases kq with
                | zero => exact absurd HA.out (by simp [turndownlaw06_CodeNearest.j4])
                | succ kj31 =>
                 have H := HA.out
                 clear HA
                 simp only [turndownlaw06_CodeNearest.j4] at H
                 by_cases c35 : x102_31 = true
                 ·
                  subst c35
                  have H1 : (some false) = some r := by rw [if_pos rfl] at H; exact H
                  clear H
                  have H := H1
                  clear H1
                  obtain rfl := Option.some.inj H
                  go_wp2
                  repeat (go_quiet (fail); try go_wp2)
                  go_ret
                  exact ⟨by first | rfl | (simp [errW_none, errW_some] <;> rfl) | (simp only [← hjz, ← hji22]; first | rfl | (simp [errW_none, errW_some] <;> rfl)) | (simp [*, errW_none, errW_some] <;> rfl), by repeat (first | (with_reducible first | exact HB.out | apply below_alloc | apply pw_below_drewN | apply below_drew1 | refine below_set ?_ GE450.out) | exact HB.out)⟩
                 ·
                  replace c35 := Bool.eq_false_iff.mpr c35
                  subst c35
                  have H1 : (turndownlaw06_CodeNearest.l3 kj31 x5_1 (wrap64 (1 + t452)) (wrap64 (1 + t453)) t454 t455 (jz) x12_3 x13_4 t462 0 0) = some r := by rw [if_neg (show ¬ (false = true) by decide)] at H; exact H
                  clear H
                  have H := H1
                  clear H1
                  have H' := Aside0.mk H
                  clear H
                  go_wp2
                  repeat (go_quiet (fail); try go_wp2)
                  go_loopg [17, 18] kj31 (fun kq v17 v18 w' => ∃ (x17_6 : Int) (x18_6 : Int), v17 = .int .i64 x17_6 ∧ v18 = .int .i64 x18_6 ∧ Aside0 (turndownlaw06_CodeNearest.l3 kq x5_1 (wrap64 (1 + t452)) (wrap64 (1 + t453)) t454 t455 (jz) x12_3 x13_4 t462 x17_6 x18_6 = some r) ∧ Aside0 (kq ≤ kj31) ∧ Aside0 (w'.heap[gb450]? = some (.cells #[.int .i64 a1_0, .int .i64 a1_1] 38 (0, 0))) ∧ Aside0 (Below w.heap.size w w'))
                  case atStart => exact ⟨(0), (0), (by first | rfl | (simp; done) | (simp [*]; done)), (by first | rfl | (simp; done) | (simp [*]; done)), H', ⟨Nat.le_refl _⟩, ⟨by (with_reducible repeat (first | refine blk_drewN ?_ _ | refine blk_drew ?_ | refine blk_alloc ?_ _)); exact BK450.out⟩, ⟨by repeat (first | (with_reducible first | exact HB.out | apply below_alloc | apply pw_below_drewN | apply below_drew1 | refine below_set ?_ GE450.out) | exact HB.out)⟩⟩
                  case round =>
                   clear H'
                   try clear c1
                   try clear c2
                   try clear p2
                   try clear c3
                   try clear hcv3
                   try clear c6
                   try clear c6b0
                   try clear c6b1
                   try clear p6
                   try clear c7
                   try clear c7b0
                   try clear c7b1
                   try clear c7b2
                   try clear c8
                   try clear c8b0
                   try clear c8b1
                   try clear c9
                   try clear c9b0
                   try clear c9b1
                   try clear c9b2
                   try clear c13
                   try clear c16
                   try clear c16b0
                   try clear c16b1
                   try clear c17
                   try clear c17b0
                   try clear c17b1
                   try clear c19
                   try clear c21
                   try clear c21b0
                   try clear c21b1
                   try clear c23
                   try clear c23b0
                   try clear c24
                   try clear c24b0
                   try clear c25
                   try clear c25b0
                   try clear c25b1
                   try clear c27
                   try clear c27b0
                   try clear c27b1
                   try clear c27b2
                   try clear hcv30
                   try clear c34
                   try clear c34b0
                   try clear c34b1
                   try clear c35
                   try clear hcz14_0
                   try clear hcz14_1
                   try clear hfz14_0
                   try clear hfz14_1
                   try clear p2
                   try clear p6
                   obtain ⟨x17_6, x18_6, rfl, rfl, HA, HK6, BK450, HB⟩ := hrel
                   cases gk with
                   | zero => exact absurd HA.out (by simp [turndownlaw06_CodeNearest.l3])
                   | succ k6 =>
                    have H := HA.out
                    clear HA
                    simp only [turndownlaw06_CodeNearest.l3] at H
                    by_cases c36 : x18_6 < (t462.size : Int)
                    ·
                     rw [if_pos c36] at H
                     have c36b0 : decide (x18_6 < (t462.size : Int)) = true := decide_eq_true c36
                     clear c36
                     by_cases c37 : 0 ≤ x18_6
                     ·
                      rw [if_pos c37] at H
                      have c37b0 : decide (0 ≤ x18_6) = true := decide_eq_true c37
                      clear c37
                      by_cases c39 : x18_6 < (x5_1.size : Int)
                      ·
                       rw [if_pos c39] at H
                       have c39b0 : decide (x18_6 < (x5_1.size : Int)) = true := decide_eq_true c39
                       clear c39
                       by_cases c41 : (bt t462 x18_6) = (bt x5_1 x18_6)
                       ·
                        rw [if_pos c41] at H
                        have c41b0 : ((bt t462 x18_6) == (bt x5_1 x18_6)) = true := beq_iff_eq.mpr c41
                        have c41b1 : ((bt t462 x18_6) != (bt x5_1 x18_6)) = false := bne_eq_false_iff_eq.mpr c41
                        clear c41
                        have H' := Aside0.mk H
                        clear H
                        have p38 : 0 ≤ (x18_6 : Int) := of_decide_eq_true (by first | (with_reducible assumption) | assumption)
                        have q38 : x18_6 < (t462.size : Int) := of_decide_eq_true (by first | (with_reducible assumption) | assumption)
                        have hx38 := bt_at t462 x18_6
                        replace p38 := eq_true p38
                        replace q38 := eq_true q38
                        have p40 : 0 ≤ (x18_6 : Int) := of_decide_eq_true (by first | (with_reducible assumption) | assumption)
                        have q40 : x18_6 < (x5_1.size : Int) := of_decide_eq_true (by first | (with_reducible assumption) | assumption)
                        have hx40 := bt_at x5_1 x18_6
                        replace p40 := eq_true p40
                        replace q40 := eq_true q40
                        go_wp2
                        repeat (go_quiet (fail); try go_wp2)
                        go_roundg k6
                        case measure => have := HK1.out; have := HJ12.out; have := HK3.out; have := HK4.out; have := HJ31.out; have := HK6.out; omega
                        case rel => exact ⟨(x17_6), (wrap64 (x18_6 + 1)), (by first | rfl | (simp; done) | (simp [*]; done)), (by first | rfl | (simp; done) | (simp [*]; done)), H', ⟨by have := HK1.out; have := HJ12.out; have := HK3.out; have := HK4.out; have := HJ31.out; have := HK6.out; omega⟩, ⟨by (with_reducible repeat (first | refine blk_drewN ?_ _ | refine blk_drew ?_ | refine blk_alloc ?_ _)); exact BK450.out⟩, ⟨by repeat (first | (with_reducible first | exact HB.out | apply below_alloc | apply pw_below_drewN | apply below_drew1 | refine below_set ?_ GE450.out) | exact HB.out)⟩⟩
                       ·
                        rw [if_neg c41] at H
                        have c41b0 : ((bt t462 x18_6) == (bt x5_1 x18_6)) = false := beq_eq_false_iff_ne.mpr c41
                        have c41b1 : ((bt t462 x18_6) != (bt x5_1 x18_6)) = true := bne_iff_ne.mpr c41
                        have H' := Aside0.mk H
                        clear H
                        have p38 : 0 ≤ (x18_6 : Int) := of_decide_eq_true (by first | (with_reducible assumption) | assumption)
                        have q38 : x18_6 < (t462.size : Int) := of_decide_eq_true (by first | (with_reducible assumption) | assumption)
                        have hx38 := bt_at t462 x18_6
                        replace p38 := eq_true p38
                        replace q38 := eq_true q38
                        have p40 : 0 ≤ (x18_6 : Int) := of_decide_eq_true (by first | (with_reducible assumption) | assumption)
                        have q40 : x18_6 < (x5_1.size : Int) := of_decide_eq_true (by first | (with_reducible assumption) | assumption)
                        have hx40 := bt_at x5_1 x18_6
                        replace p40 := eq_true p40
                        replace q40 := eq_true q40
                        go_wp2
                        repeat (go_quiet (fail); try go_wp2)
                        go_roundg k6
                        case measure => have := HK1.out; have := HJ12.out; have := HK3.out; have := HK4.out; have := HJ31.out; have := HK6.out; omega
                        case rel => exact ⟨(wrap64 (x17_6 + 1)), (wrap64 (x18_6 + 1)), (by first | rfl | (simp; done) | (simp [*]; done)), (by first | rfl | (simp; done) | (simp [*]; done)), H', ⟨by have := HK1.out; have := HJ12.out; have := HK3.out; have := HK4.out; have := HJ31.out; have := HK6.out; omega⟩, ⟨by (with_reducible repeat (first | refine blk_drewN ?_ _ | refine blk_drew ?_ | refine blk_alloc ?_ _)); exact BK450.out⟩, ⟨by repeat (first | (with_reducible first | exact HB.out | apply below_alloc | apply pw_below_drewN | apply below_drew1 | refine below_set ?_ GE450.out) | exact HB.out)⟩⟩
                      ·
                       rw [if_neg c39] at H
                       exact absurd H (by simp)
                     ·
                      rw [if_neg c37] at H
                      exact absurd H (by simp)
                    ·
                     rw [if_neg c36] at H
                     have c36b0 : decide (x18_6 < (t462.size : Int)) = false := decide_eq_false c36
                     clear c36
                     by_cases c42 : x17_6 < t455
                     ·
                      rw [if_pos c42] at H
                      have c42b0 : decide (x17_6 < t455) = true := decide_eq_true c42
                      clear c42
                      obtain rfl := Option.some.inj H
                      go_wp2
                      repeat (go_quiet (fail); try go_wp2)
                      go_ret
                      exact ⟨by first | rfl | (simp [errW_none, errW_some] <;> rfl) | (simp only [← hjz, ← hji22]; first | rfl | (simp [errW_none, errW_some] <;> rfl)) | (simp [*, errW_none, errW_some] <;> rfl), by repeat (first | (with_reducible first | exact HB.out | apply below_alloc | apply pw_below_drewN | apply below_drew1 | refine below_set ?_ GE450.out) | exact HB.out)⟩
                     ·
                      rw [if_neg c42] at H
                      have c42b0 : decide (x17_6 < t455) = false := decide_eq_false c42
                      clear c42
                      by_cases c43 : x17_6 = t455
                      ·
                       rw [if_pos c43] at H
                       have c43b0 : (x17_6 == t455) = true := beq_iff_eq.mpr c43
                       have c43b1 : (x17_6 != t455) = false := bne_eq_false_iff_eq.mpr c43
                       clear c43
                       by_cases c44 : (Op.bytesLess x13_4.toList t454.toList) = true
                       ·
                        rw [if_pos c44] at H
                        have c44b0 : (Op.bytesLess x13_4.toList t454.toList) = true := c44
                        clear c44
                        obtain rfl := Option.some.inj H
                        go_wp2
                        repeat (go_quiet (fail); try go_wp2)
                        go_ret
                        exact ⟨by first | rfl | (simp [errW_none, errW_some] <;> rfl) | (simp only [← hjz, ← hji22]; first | rfl | (simp [errW_none, errW_some] <;> rfl)) | (simp [*, errW_none, errW_some] <;> rfl), by repeat (first | (with_reducible first | exact HB.out | apply below_alloc | apply pw_below_drewN | apply below_drew1 | refine below_set ?_ GE450.out) | exact HB.out)⟩
                       ·
                        rw [if_neg c44] at H
                        have c44b0 : (Op.bytesLess x13_4.toList t454.toList) = false := by simpa using c44
                        clear c44
                        by_cases c45 : x13_4.toList = t454.toList
                        ·
                         rw [if_pos c45] at H
                         have c45b0 : (x13_4.toList == t454.toList) = true := beq_iff_eq.mpr c45
                         have c45b1 : (x13_4.toList != t454.toList) = false := bne_eq_false_iff_eq.mpr c45
                         clear c45
                         have H' := Aside0.mk H
                         clear H
                         go_wp2
                         repeat (go_quiet (fail); try go_wp2)
                         go_roundg k6
                         case measure => have := HK1.out; have := HJ12.out; have := HK3.out; have := HK4.out; have := HJ31.out; have := HK6.out; omega
                         case rel => exact ⟨(wrap64 (x12_3 + 1)), (by first | rfl | (simp; done) | (simp [*]; done)), H', ⟨by have := HK1.out; have := HJ12.out; have := HK3.out; have := HK4.out; have := HJ31.out; have := HK6.out; omega⟩, ⟨by (with_reducible repeat (first | refine blk_drewN ?_ _ | refine blk_drew ?_ | refine blk_alloc ?_ _)); exact BK450.out⟩, ⟨by repeat (first | (with_reducible first | exact HB.out | apply below_alloc | apply pw_below_drewN | apply below_drew1 | refine below_set ?_ GE450.out) | exact HB.out)⟩⟩
                        ·
                         rw [if_neg c45] at H
                         have c45b0 : (x13_4.toList == t454.toList) = false := beq_eq_false_iff_ne.mpr c45
                         have c45b1 : (x13_4.toList != t454.toList) = true := bne_iff_ne.mpr c45
                         have H' := Aside0.mk H
                         clear H
                         go_wp2
                         repeat (go_quiet (fail); try go_wp2)
                         go_roundg k6
                         case measure => have := HK1.out; have := HJ12.out; have := HK3.out; have := HK4.out; have := HJ31.out; have := HK6.out; omega
                         case rel => exact ⟨(wrap64 (x12_3 + 1)), (by first | rfl | (simp; done) | (simp [*]; done)), H', ⟨by have := HK1.out; have := HJ12.out; have := HK3.out; have := HK4.out; have := HJ31.out; have := HK6.out; omega⟩, ⟨by (with_reducible repeat (first | refine blk_drewN ?_ _ | refine blk_drew ?_ | refine blk_alloc ?_ _)); exact BK450.out⟩, ⟨by repeat (first | (with_reducible first | exact HB.out | apply below_alloc | apply pw_below_drewN | apply below_drew1 | refine below_set ?_ GE450.out) | exact HB.out)⟩⟩
                      ·
                       rw [if_neg c43] at H
                       have c43b0 : (x17_6 == t455) = false := beq_eq_false_iff_ne.mpr c43
                       have c43b1 : (x17_6 != t455) = true := bne_iff_ne.mpr c43
                       by_cases c46 : x13_4.toList = t454.toList
                       ·
                        rw [if_pos c46] at H
                        have c46b0 : (x13_4.toList == t454.toList) = true := beq_iff_eq.mpr c46
                        have c46b1 : (x13_4.toList != t454.toList) = false := bne_eq_false_iff_eq.mpr c46
                        clear c46
                        obtain rfl := Option.some.inj H
                        go_wp2
                        repeat (go_quiet (fail); try go_wp2)
                        go_ret
                        exact ⟨by first | rfl | (simp [errW_none, errW_some] <;> rfl) | (simp only [← hjz, ← hji22]; first | rfl | (simp [errW_none, errW_some] <;> rfl)) | (simp [*, errW_none, errW_some] <;> rfl), by repeat (first | (with_reducible first | exact HB.out | apply below_alloc | apply pw_below_drewN | apply below_drew1 | refine below_set ?_ GE450.out) | exact HB.out)⟩
                       ·
                        rw [if_neg c46] at H
                        have c46b0 : (x13_4.toList == t454.toList) = false := beq_eq_false_iff_ne.mpr c46
                        have c46b1 : (x13_4.toList != t454.toList) = true := bne_iff_ne.mpr c46
                        have H' := Aside0.mk H
                        clear H
                        go_wp2
                        repeat (go_quiet (fail); try go_wp2)
                        go_roundg k6
                        case measure => have := HK1.out; have := HJ12.out; have := HK3.out; have := HK4.out; have := HJ31.out; have := HK6.out; omega
                        case rel => exact ⟨(wrap64 (x12_3 + 1)), (by first | rfl | (simp; done) | (simp [*]; done)), H', ⟨by have := HK1.out; have := HJ12.out; have := HK3.out; have := HK4.out; have := HJ31.out; have := HK6.out; omega⟩, ⟨by (with_reducible repeat (first | refine blk_drewN ?_ _ | refine blk_drew ?_ | refine blk_alloc ?_ _)); exact BK450.out⟩, ⟨by repeat (first | (with_reducible first | exact HB.out | apply below_alloc | apply pw_below_drewN | apply below_drew1 | refine below_set ?_ GE450.out) | exact HB.out)⟩⟩
           ·
            rw [if_neg c23] at H
            have c23b0 : decide (x12_3 < (ji22)) = false := decide_eq_false c23
            clear c23
            replace H := Option.bind_eq_some_iff.mp H
            obtain ⟨t458, A470, H⟩ := H
            replace H : (some t458) = some r := H
            have A47 := Aside0.mk A470
            clear A470
            obtain rfl := Option.some.inj H
            go_wp2_with (first | (go_at_call 22; (with_reducible refine (turndownlaw06_awake.calls k3  t458 _ A47.out).mono ?_); rintro e w48 ⟨rfl, hb⟩; have n0_ := Aside0.mk (blk_below (g := gb450) (o := .cells #[.int .i64 a1_0, .int .i64 a1_1] 38 (0, 0)) (by (with_reducible repeat (first | refine blk_drewN ?_ _ | refine blk_drew ?_ | refine blk_alloc ?_ _)); exact BK450.out) hb); have n1_ := Aside0.mk (below_step (by repeat (first | (with_reducible first | exact HB.out | apply below_alloc | apply pw_below_drewN | apply below_drew1 | refine below_set ?_ GE450.out) | exact HB.out)) hb); clear BK450; clear HB; have BK450 := n0_; have HB := n1_; clear n0_ n1_; (try clear hb); (try clear hb2); (try clear hk); (try clear hi)))
            repeat (go_quiet (first | (go_at_call 22; (with_reducible refine (turndownlaw06_awake.calls k3  t458 _ A47.out).mono ?_); rintro e w48 ⟨rfl, hb⟩; have n0_ := Aside0.mk (blk_below (g := gb450) (o := .cells #[.int .i64 a1_0, .int .i64 a1_1] 38 (0, 0)) (by (with_reducible repeat (first | refine blk_drewN ?_ _ | refine blk_drew ?_ | refine blk_alloc ?_ _)); exact BK450.out) hb); have n1_ := Aside0.mk (below_step (by repeat (first | (with_reducible first | exact HB.out | apply below_alloc | apply pw_below_drewN | apply below_drew1 | refine below_set ?_ GE450.out) | exact HB.out)) hb); clear BK450; clear HB; have BK450 := n0_; have HB := n1_; clear n0_ n1_; (try clear hb); (try clear hb2); (try clear hk); (try clear hi))); try go_wp2_with (first | (go_at_call 22; (with_reducible refine (turndownlaw06_awake.calls k3  t458 _ A47.out).mono ?_); rintro e w48 ⟨rfl, hb⟩; have n0_ := Aside0.mk (blk_below (g := gb450) (o := .cells #[.int .i64 a1_0, .int .i64 a1_1] 38 (0, 0)) (by (with_reducible repeat (first | refine blk_drewN ?_ _ | refine blk_drew ?_ | refine blk_alloc ?_ _)); exact BK450.out) hb); have n1_ := Aside0.mk (below_step (by repeat (first | (with_reducible first | exact HB.out | apply below_alloc | apply pw_below_drewN | apply below_drew1 | refine below_set ?_ GE450.out) | exact HB.out)) hb); clear BK450; clear HB; have BK450 := n0_; have HB := n1_; clear n0_ n1_; (try clear hb); (try clear hb2); (try clear hk); (try clear hi))))
            go_ret
            exact ⟨by first | rfl | (simp [errW_none, errW_some] <;> rfl) | (simp only [← hjz, ← hji22]; first | rfl | (simp [errW_none, errW_some] <;> rfl)) | (simp [*, errW_none, errW_some] <;> rfl), by repeat (first | (with_reducible first | exact HB.out | apply below_alloc | apply pw_below_drewN | apply below_drew1 | refine below_set ?_ GE450.out) | exact HB.out)⟩
          ·
           rw [if_neg c21] at H
           exact absurd H (by simp)
end Go.Proofs.Ytcpojohpmcnnhaa.PA

set_option linter.unusedVariables false
set_option linter.unusedSimpArgs false
namespace Go.Proofs.Ytcpojohpmcnnhaa.Pure
open Go.RowKit Go.Proofs.Ytcpojohpmcnnhaa.PA Go.Proofs.YtcpojohpmcnnhaaW.PrintWords Go.Proofs.YtcpojohpmcnnhaaW.PrintLast Go.Proofs.Ytcpojohpmcnnhaa.L Go.Proofs.Ytcpojohpmcnnhaa.A
theorem shl_tab : ∀ c : Fin 9, shl .i64 1 (c.val : Int) ≤ 256 := by decide +kernel
theorem near_l3 {c m s p : ByteArray} {G H V sz x12 : Int} (hp : p.size = c.size) (hps : p.size ≤ 1000)
    (hnext : Ev (fun k => turndownlaw06_CodeNearest.l1 k c G H s V sz (wrap64 (x12 + 1))) true)
    (h1 : V ≤ distB p.data.toList c.data.toList p.size) (h2 : distB p.data.toList c.data.toList p.size = V → Op.bytesLess m.toList s.toList = false) (h3 : m.toList = s.toList → distB p.data.toList c.data.toList p.size = V) :
    Ev (fun k => turndownlaw06_CodeNearest.l3 k c G H s V sz x12 m p 0 0) true := by
  have hd : ∀ k, 0 ≤ distB p.data.toList c.data.toList k ∧ distB p.data.toList c.data.toList k ≤ k := by
    intro k
    induction k with
    | zero => exact ⟨Int.le_refl _, Int.le_refl _⟩
    | succ k ih =>
      rw [distB]
      split <;> omega
  have key : ∀ e i, i + e = p.size → Ev (fun k => turndownlaw06_CodeNearest.l3 k c G H s V sz x12 m p (distB p.data.toList c.data.toList i) (i : Int)) true := by
    intro e
    induction e with
    | zero =>
      intro i hi
      obtain rfl : i = p.size := by omega
      refine Ev.step (fun k => ?_) hnext
      rw [turndownlaw06_CodeNearest.l3, if_neg (by omega), if_neg (by omega)]
      by_cases hV : distB p.data.toList c.data.toList p.size = V
      · rw [if_pos hV, if_neg (by rw [h2 hV]; decide)]
        split <;> rfl
      · rw [if_neg hV, if_neg (fun h => hV (h3 h))]
    | succ e ih =>
      intro i hi
      have h1 := ih (i + 1) (by omega)
      rw [distB] at h1
      have hb1 := bt_nat p (q := i) (by omega)
      have hb2 := bt_nat c (q := i) (by omega)
      have hdi := hd i
      by_cases hc : p.data.toList.getD i 0 = c.data.toList.getD i 0
      · rw [if_pos hc, Int.add_zero] at h1
        refine Ev.step (fun k => ?_) h1
        rw [turndownlaw06_CodeNearest.l3, if_pos (by omega), if_pos (by omega), if_pos (by omega), hb1, hb2, if_pos (by rw [hc]), L.w1 (by omega)]
      · rw [if_neg hc] at h1
        refine Ev.step (fun k => ?_) h1
        have hne : ¬ ((p.data.toList.getD i 0).toNat : Int) = ((c.data.toList.getD i 0).toNat : Int) := fun h => hc (UInt8.toNat_inj.1 (by omega))
        rw [turndownlaw06_CodeNearest.l3, if_pos (by omega), if_pos (by omega), if_pos (by omega), hb1, hb2, if_neg hne, L.w1 (by omega), wsm (by omega)]
  exact key p.size 0 (by omega)
theorem one_str {v : Int} (hv : v = 48 ∨ v = 49) : ∃ ch : UInt8, strOfNums [v] = ⟨#[ch]⟩ ∧ (ch = 48 ∨ ch = 49) := by
  rcases hv with rfl | rfl
  · exact ⟨48, strOf_u8s [48], .inl rfl⟩
  · exact ⟨49, strOf_u8s [49], .inr rfl⟩
theorem app_one {m : ByteArray} {ch : UInt8} (hm : bitsS m = true) (hc : ch = 48 ∨ ch = 49) : bitsS (m ++ ⟨#[ch]⟩) = true ∧ (m ++ (⟨#[ch]⟩ : ByteArray)).size = m.size + 1 := by
  refine ⟨?_, by rw [ByteArray.size_append]; rfl⟩
  unfold bitsS bitsB at *
  rw [ByteArray.data_append, Array.toList_append, List.all_append, hm]
  rcases hc with rfl | rfl <;> rfl
theorem near_main {c : ByteArray} {x y : Int} {n : Nat} (hs : c.size = 2 * n) (h3 : 3 ≤ n) (hn : n ≤ 11) (hb : bitsS c = true) : Ev (fun k => turndownlaw06_CodeNearest.l0 k c x y) true := by
  obtain ⟨q, hq, hq9⟩ : ∃ q, q = n - 3 ∧ q < 9 := ⟨_, rfl, by omega⟩
  have hT := shl_tab ⟨q, hq9⟩
  simp only at hT
  obtain ⟨T, hTd⟩ : ∃ T, shl .i64 1 (q : Int) = T := ⟨_, rfl⟩
  rw [hTd] at hT
  have HTd := Lib.hid hTd
  clear hTd
  have hx := modI_bd x (n := 15) (by omega)
  have hy := modI_bd y (n := 15) (by omega)
  obtain ⟨G, hG⟩ : ∃ G, wrap64 (1 + modI x 15) = G := ⟨_, rfl⟩
  obtain ⟨H, hH⟩ : ∃ H, wrap64 (1 + modI y 15) = H := ⟨_, rfl⟩
  have hG1 : 1 ≤ G ∧ G ≤ 15 := by rw [← hG, wsm (by omega)]; omega
  have hH1 : 1 ≤ H ∧ H ≤ 15 := by rw [← hH, wsm (by omega)]; omega
  have tG : tapB G = true := by unfold tapB; simp; omega
  have tH : tapB H = true := by unfold tapB; simp; omega
  have hsz : wrap64 (wrap64 ((c.size : Int) / 2) - 3) = (q : Int) := by rw [wsm (x := (c.size : Int) / 2) (by omega), wsm (by omega)]; omega
  obtain ⟨s, hsd⟩ : ∃ s, readM c G H n = s := ⟨_, rfl⟩
  obtain ⟨V, hV⟩ : ∃ V, VR G.toNat H.toNat c n 0 0 = V := ⟨_, rfl⟩
  have hss : s.size = q := by rw [← hsd, readM_size]; omega
  have hsb : bitsS s = true := by rw [← hsd]; exact readM_bits _ _ _ _
  have HG := Lib.hid hG
  have HH := Lib.hid hH
  have HV := Lib.hid hV
  have HSZ := Lib.hid hsz
  clear hG hH hV hsz
  have rounds : ∀ (d : Nat) (x12 : Int), 0 ≤ x12 → x12 + (d : Int) = 300 → Ev (fun k => turndownlaw06_CodeNearest.l1 k c G H s V (q : Int) x12) true := by
    intro d
    induction d with
    | zero =>
      intro x12 h0 h1
      refine Ev.step (fun k => ?_) (Ev.bind (f := fun _ t => some t) awake_ev (Ev.now _))
      rw [turndownlaw06_CodeNearest.l1, if_pos (by omega), HTd.out, if_neg (by omega)]
    | succ d ih =>
      intro x12 h0 h1
      have hnext := ih (x12 + 1) (by omega) (by omega)
      rw [← wsm (x := x12 + 1) (by omega)] at hnext
      by_cases hlt : x12 < T
      · have inner : ∀ (e : Nat) (m : ByteArray) (x14 : Int), m.size + e = q → bitsS m = true → x14 + 1 = (e : Int) → Ev (fun k => turndownlaw06_CodeNearest.l2 k c G H s V (q : Int) x12 m x14) true := by
          intro e
          induction e with
          | zero =>
            intro m x14 hm hmb h14
            have hg : cardR m G H = (cardS m G H, 0) := by
              unfold cardR
              rw [if_pos (by unfold goodS; rw [hmb, tG, tH, decide_eq_true (by omega)]; rfl)]
            have hce := card_ev m G H (by omega)
            rw [hg] at hce
            have hpz := cardS_size m G H
            have hall := near_all (x := G) (y := H) hs h3 (by omega) (m := m) (by omega) hmb
            rw [hsd, HV.out, show 2 * n = (cardS m G H).size by omega] at hall
            refine Ev.step (fun k => ?_) (Ev.bind (f := fun k (bt : ByteArray × Int) => (if bt.2 = 0 then (turndownlaw06_CodeNearest.j4 k c G H s V (q : Int) x12 m bt.1 ((bt.1.size : Int) != (c.size : Int))) else (turndownlaw06_CodeNearest.j4 k c G H s V (q : Int) x12 m bt.1 true))) hce ?_)
            · rw [turndownlaw06_CodeNearest.l2, if_neg (by omega)]
            · simp only [if_true]
              have e1 : (((cardS m G H).size : Int) != (c.size : Int)) = false := by rw [bne_eq_false_iff_eq]; omega
              rw [e1]
              refine Ev.step (fun k => ?_) (near_l3 (by omega) (by omega) hnext hall.1 hall.2.1 hall.2.2)
              rw [turndownlaw06_CodeNearest.j4, if_neg (by simp)]
          | succ e ihe =>
            intro m x14 hm hmb h14
            have hv : (wrap64 (48 + (Int.tmod (shr .i64 x12 x14) 2))) % 256 = 48 ∨ (wrap64 (48 + (Int.tmod (shr .i64 x12 x14) 2))) % 256 = 49 := by
              have hsh : 0 ≤ shr .i64 x12 x14 := by unfold shr; exact Int.ediv_nonneg h0 (Int.pow_nonneg (by omega))
              rw [Int.tmod_eq_emod_of_nonneg hsh, wsm (by omega)]
              omega
            obtain ⟨ch, hch, hcb⟩ := one_str hv
            have happ := app_one hmb hcb
            have hi := ihe (m ++ ⟨#[ch]⟩) (x14 - 1) (by rw [happ.2]; omega) happ.1 (by omega)
            refine Ev.step (fun k => ?_) hi
            have h1s : (⟨#[ch]⟩ : ByteArray).size = 1 := rfl
            rw [turndownlaw06_CodeNearest.l2, if_pos (by omega), if_pos (by omega), Option.bind_some, hch, if_pos (by rw [h1s]; omega)]
            have : wrap64 (x14 - 1) = x14 - 1 := by unfold wrap64; omega
            rw [this]
        have hin := inner q ⟨#[]⟩ ((q : Int) - 1) (by show 0 + q = q; omega) rfl (by omega)
        refine Ev.step (fun k => ?_) hin
        have : wrap64 ((q : Int) - 1) = (q : Int) - 1 := by unfold wrap64; omega
        rw [turndownlaw06_CodeNearest.l1, if_pos (by omega), HTd.out, if_pos hlt, this]
      · refine Ev.step (fun k => ?_) (Ev.bind (f := fun _ t => some t) awake_ev (Ev.now _))
        rw [turndownlaw06_CodeNearest.l1, if_pos (by omega), HTd.out, if_neg hlt]
  have hread := read_ev (x := G) (y := H) hs h3 (by omega) hb hG1 hH1
  rw [hsd, HV.out] at hread
  refine Ev.step (fun k => ?_) (Ev.bind (f := fun k (bt454 : ByteArray × Int × Int) => (if bt454.2.2 = 0 then (if (bt454.1.size : Int) = (q : Int) then ((turndownref06_Bits.f k bt454.1).bind fun t457 => (turndownlaw06_CodeNearest.j1 k c G H bt454.1 bt454.2.1 (q : Int) (!t457))) else (turndownlaw06_CodeNearest.j1 k c G H bt454.1 bt454.2.1 (q : Int) true)) else (turndownlaw06_CodeNearest.j1 k c G H bt454.1 bt454.2.1 (q : Int) true))) hread ?_)
  · rw [turndownlaw06_CodeNearest.l0, if_neg (by omega), if_neg (by omega), mod_all _ (by omega) (by omega), mod_all _ (by omega) (by omega)]
    simp only [Option.bind_some, HG.out, HH.out, HSZ.out]
  · simp only [if_true, if_pos (show (s.size : Int) = (q : Int) by omega)]
    refine Ev.bind (refBits_ev s (by omega)) ?_
    rw [hsb]
    refine Ev.step (fun k => ?_) (rounds 300 0 (by omega) (by omega))
    rw [turndownlaw06_CodeNearest.j1, if_neg (by simp)]
theorem near_pad {x y : Int} : ∀ d (c : ByteArray), c.size + d = 22 → bitsS c = true → Ev (fun k => turndownlaw06_CodeNearest.l0 k c x y) true := by
  have main : ∀ c : ByteArray, c.size ≤ 22 → 6 ≤ c.size → ¬ (c.size : Int) % 2 = 1 → bitsS c = true → Ev (fun k => turndownlaw06_CodeNearest.l0 k c x y) true := by
    intro c h1 h2 h3 h4
    exact near_main (n := c.size / 2) (by omega) (by omega) (by omega) h4
  intro d
  induction d with
  | zero => intro c hc hb; exact main c (by omega) (by omega) (by omega) hb
  | succ d ih =>
    intro c hc hb
    have happ := app_one (ch := 48) hb (.inl rfl)
    have hi := ih (c ++ ⟨#[48]⟩) (by rw [happ.2]; omega) happ.1
    by_cases h6 : (c.size : Int) < 6
    · refine Ev.step (fun k => ?_) hi
      rw [turndownlaw06_CodeNearest.l0, if_pos h6, if_pos (by omega)]
    · by_cases ho : (c.size : Int) % 2 = 1
      · refine Ev.step (fun k => ?_) hi
        rw [turndownlaw06_CodeNearest.l0, if_neg h6, if_pos ho, if_pos (by omega)]
      · exact main c (by omega) (by omega) ho hb
theorem CodeNearest (a : ByteArray) (x y : Int) : ∃ k, turndownlaw06_CodeNearest.f k a x y = some true := by
  obtain ⟨m, E1, s1, b1⟩ := msg_ev a (most := 22) (by omega)
  have key : Ev (fun k => turndownlaw06_CodeNearest.f k a x y) true := by
    unfold turndownlaw06_CodeNearest.f
    exact Ev.bind E1 (near_pad (22 - m.size) m (by omega) b1)
  obtain ⟨K, hK⟩ := key
  exact ⟨K, hK K (Nat.le_refl _)⟩
end Go.Proofs.Ytcpojohpmcnnhaa.Pure

set_option linter.unusedVariables false
set_option linter.unusedSimpArgs false
namespace Go.Proofs.Ytcpojohpmcnnhaa.E
open Go.ChangeShapes Go.WideShapes Go.ChangeAt Go.RowKit Go.Deep
open Go.Proofs.YtcpojohpmcnnhaaW.PrintWords Go.Proofs.YtcpojohpmcnnhaaW.PrintLast Go.Proofs.YtcpojohpmcnnhaaW.PrintMore
open Go.Proofs.Ytcpojohpmcnnhaa.PA
theorem own : ownKnob Try.prog.godebug = none := by kernel_rfl
theorem laidOut : laidOutB Try.prog = true := by kernel_rfl
variable {H : Type} {enc : TypeId × Value → H}
theorem open_int3 {W : World} {fuel : Nat} {cs : List Value} {x : DataW H × List MemPlace} (h : DataW.trod enc Try.prog W 0 (fun _ => true) true fuel 3 cs = some x) : ∃ n, cs = [.int .i64 n] ∧ x = (.lit (.int .i64 n), []) ∧ (Lit.int .i64 n).wf = true :=
  DataW.trod_int Try.underlying3 h
theorem okWide_array {P : Program} {w : World} {r : Reach} {base : Nat} {t e : TypeId} {n : Nat} {v : Value} (ht : P.underlying t = some (.array n e)) (h : Value.okWide P w r base t v) : ∃ cs, v = .agg cs ∧ cs.size = P.cellsOf t := by
  simp only [Value.okWide, ht] at h
  obtain ⟨cs, h1, h2, _⟩ := h
  exact ⟨cs, h1, h2⟩
set_option maxRecDepth 100000 in
theorem ints_of_array {W : World} {base : Nat} {t n : Nat} {v : Value} {d : DataW H} {p : List MemPlace} (ht : Try.prog.underlying t = some (.array n 3)) (hC : Try.prog.cellsOf t = n) (hv : Value.okWide Try.prog W .any base t v)
    (h : DataW.Trod enc Try.prog W 0 (fun _ => true) true t v d p) : ∃ cs : Array Value, v = .agg cs ∧ cs.size = n ∧ ∀ i, i < n → ∃ x : Int, (v.cells.toList.drop i).take 1 = [.int .i64 x] ∧ (Lit.int .i64 x).wf = true := by
  have e1 : Try.prog.cellsOf 3 = 1 := by kernel_rfl
  obtain ⟨cs, rfl, hsz⟩ := okWide_array ht hv
  obtain ⟨fuel, hf⟩ := h
  obtain ⟨xs, m, _, _, _, hl, hel⟩ := DataW.trod_array ht hf
  refine ⟨cs, rfl, by omega, fun i hi => ?_⟩
  have h1 := hel i hi
  rw [e1, Nat.mul_one] at h1
  rw [List.getElem?_eq_getElem (by omega)] at h1
  obtain ⟨x, h2, _, h3⟩ := open_int3 h1
  exact ⟨x, h2, h3⟩
theorem arr2 : ∀ {cs : Array Value}, cs.size = 2 → ∃ a b, cs = #[a, b] := by
  rintro ⟨l⟩ h
  match l, h with
  | [a, b], _ => exact ⟨a, b, rfl⟩
set_option maxRecDepth 100000 in
theorem open_arr2 {W : World} {base : Nat} {v : Value} {d : DataW H} {p : List MemPlace} (hv : Value.okWide Try.prog W .any base 38 v) (h : DataW.Trod enc Try.prog W 0 (fun _ => true) true 38 v d p) :
    ∃ a b : Int, v = .agg #[.int .i64 a, .int .i64 b] ∧ (Lit.int .i64 a).wf = true ∧ (Lit.int .i64 b).wf = true := by
  obtain ⟨cs, rfl, hsz, hc⟩ := ints_of_array Try.underlying38 (by kernel_rfl) hv h
  obtain ⟨c0, c1, rfl⟩ := arr2 hsz
  obtain ⟨a, ha, wa⟩ := hc 0 (by omega)
  obtain ⟨b, hb, wb⟩ := hc 1 (by omega)
  simp [Value.cells] at ha hb
  exact ⟨a, b, by rw [ha, hb], wa, wb⟩
end Go.Proofs.Ytcpojohpmcnnhaa.E

set_option linter.unusedVariables false
set_option linter.unusedSimpArgs false
namespace Go.Proofs.Ytcpojohpmcnnhaa.codeNearest
open Go.ChangeShapes Go.WideShapes Go.ChangeAt Go.RowKit
open Go.ChangeMaps (open_string shut_string)
open Go.Proofs.Ytcpojohpmcnnhaa.E
set_option maxRecDepth 100000 in
theorem lifted (os : Os) (started : os.Started) (H : Type) (enc : TypeId × Value → H) :
  ReturnsInHanded {} Try.checked os 13 .any (Rows.codeNearestSpec.pre6 enc Try.prog Try.f13 Rows.codeNearestRow.domain false) (Rows.codeNearestSpec.post enc Try.prog Try.f13 false true false false) := by
 refine returnsInHanded_of_change_sized (C := Try.checked) own started (by kernel_rfl) Try.func13
  (ChangeSpec.witness6 (enc := enc) (C := Try.checked) false ⟨#[], #[.string ByteArray.empty, .agg #[.int .i64 0, .int .i64 0]], []⟩ 8 (by kernel_rfl) (by kernel_rfl) (by kernel_rfl) (by kernel_rfl)) ?_
 intro W base args ds gs before hval0 hW hcnd hsz0 _
 have hsz : (DataW.weightsEach Try.prog (Try.f13.params.toList ++ Rows.codeNearestSpec.plain.varTypes Try.prog) (ds ++ gs)).all (· ≤ reachBytes) = true := hsz0
 have hval : ∀ (j : Nat) t v, Try.f13.params[j]? = some t → args[j]? = some v → Value.okWide Try.prog W .any base t v := hval0
 have hW' := hW
 obtain ⟨p, q, hA0, hV, rfl, hfz, hnd⟩ := hW
 have hA : DataW.TrodAll enc Try.prog W 0 (fun _ => true) true Try.f13.params.toList args.toList ds p := hA0
 rw [Try.params13] at hA hval hsz
 obtain ⟨v0, vs0, d0, ds0, p0, q0, hargs, rfl, rfl, h0, r0⟩ := trodAll_cons hA
 obtain ⟨v1, vs1, d1, ds1, p1, q1, rfl, rfl, rfl, h1, r1⟩ := trodAll_cons r0
 obtain ⟨rfl, rfl, rfl⟩ := trodAll_nil r1
 obtain rfl : args = #[v0, v1] := by cases args; simp_all
 obtain ⟨rfl, rfl⟩ := trodVars_none hV
 obtain ⟨a0, rfl, rfl, rfl, y0⟩ := open_string Try.underlying9 (hval 0 9 v0 rfl rfl) h0
 have w0 : a0.size ≤ 140737488351232 := by
  have z := sized_string hsz (j := 0) (t := 9) rfl rfl
  rw [Array.length_toList] at z
  exact z
 have k1 := h1
 have lt1 : ∀ x ∈ p1, x.block < W.heap.size := by obtain ⟨m, hm⟩ := k1; exact DataW.trod_lt m _ _ _ hm
 obtain ⟨a1, b1, rfl, w1, u1⟩ := open_arr2 (hval 1 38 v1 rfl rfl) h1
 clear hA0 hval0 hsz0 hsz
 obtain ⟨kk, hk⟩ := Pure.CodeNearest a0 a1 b1
 refine (PA.turndownlaw06_CodeNearest.calls kk a0 a1 b1 true W hk).mono fun e W' ⟨he, bel⟩ => ?_
 subst he
 exact ⟨_, rfl, _, _, _, [], _, [], hW', trodAll_mk1 (shut_bool Try.underlying4 _), (trodAll_cons_mk (shut_string Try.underlying9 y0) (trodAll_cons_mk (Below.trod laidOut (by kernel_rfl) (of_decide_eq_true (by kernel_rfl)) k1 bel lt1) trodAll_mk0)), rfl, bel.frame _, fun h => by cases h⟩
theorem over : Rows.codeNearestRow.holds Try.pinned (OpenSpec.ofChange Rows.codeNearestSpec) :=
 OpenClaim.holds_of_wide 13 Try.f13 rfl rfl rfl rfl rfl rfl rfl ⟨rfl, rfl, rfl, rfl, rfl⟩ rfl rfl rfl rfl rfl (by kernel_rfl) Try.func13 (by kernel_rfl)
  (of_decide_eq_true (by kernel_rfl)) (by unfold Func.isWrapper; first | (rw [if_pos (by decide +kernel)]; kernel_rfl) | (rw [if_neg (by decide +kernel)]; exact ⟨rfl, rfl⟩))
  (fun os started H enc _ => lifted os started H enc)
theorem proved : Rows.CodeNearestSaid := over
end Go.Proofs.Ytcpojohpmcnnhaa.codeNearest
namespace Go.Proofs.Ytcpojohpmcnnhaa
theorem codeNearest_holds : Rows.CodeNearestSaid := codeNearest.proved
end Go.Proofs.Ytcpojohpmcnnhaa
