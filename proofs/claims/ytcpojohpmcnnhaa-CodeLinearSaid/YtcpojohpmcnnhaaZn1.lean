/- For all strings and pairs of taps the statement CodeLinear holds: Go's function returns true and changes nothing that existed. -/
import Derived.Test.YtcpojohpmcnnhaaRows
import Derived.WalkKit
import Derived.ProofKit
import Derived.OpenShut
import Derived.ShutString
import Derived.ChangeOld
import Derived.Below
import Derived.SizedLaws
import Derived.Deep.Slices
import Derived.Deep.Strs
import Derived.Lib.SmallJoins
import Derived.Test.YtcpojohpmcnnhaaZm9
set_option linter.unusedSimpArgs false
set_option linter.unusedVariables false

namespace Go.Proofs.Ytcpojohpmcnnhaa.PA
open Go.RowKit Go.Proofs.YtcpojohpmcnnhaaW.PrintWords Go.Proofs.YtcpojohpmcnnhaaW.PrintLast Go.Proofs.YtcpojohpmcnnhaaW.PrintMore
theorem turndownlaw06_CodeLinear.min2_mn (k k' : IntKind) (x y : Int) : Builtin.min2 (.int k x) (.int k' y) = pure (.int k (mn x y)) := min2_int k k' x y
attribute [local go_sem] max2_int turndownlaw06_CodeLinear.min2_mn max_two min_two max_three min_three max_four min_four
set_option linter.unusedVariables false
set_option linter.unusedSimpArgs false
mutual
def turndownlaw06_CodeLinear.j0 : Nat → ByteArray → ByteArray → ByteArray → ByteArray → Int → Bool → Option (Bool)
 | 0, _, _, _, _, _, _ => none
 | k + 1, x7, x8, x12, x14, x18, x109 => if x109 = true then (some false) else (turndownlaw06_CodeLinear.l0 k x7 x8 x12 x14 x18 0 0)
def turndownlaw06_CodeLinear.l0 : Nat → ByteArray → ByteArray → ByteArray → ByteArray → Int → Int → Int → Option (Bool)
 | 0, _, _, _, _, _, _, _ => none
 | k + 1, x7, x8, x12, x14, x18, x20, x21 => if x21 < (x12.size : Int) then (if 0 ≤ x21 then (if x21 < (x14.size : Int) then (if (bt x12 x21) = (bt x14 x21) then (turndownlaw06_CodeLinear.l0 k x7 x8 x12 x14 x18 x20 (wrap64 (x21 + 1))) else (turndownlaw06_CodeLinear.l0 k x7 x8 x12 x14 x18 (wrap64 (x20 + 1)) (wrap64 (x21 + 1)))) else (none)) else (none)) else (if ((x7.toList == x8.toList) == (x20 == 0)) = true then (if x7.toList = x8.toList then ((turndownlaw06_awake.f k).bind fun t440 => (some t440)) else (if x20 ≥ x18 then ((turndownlaw06_awake.f k).bind fun t441 => (some t441)) else (some false))) else (some false))
end
def turndownlaw06_CodeLinear.f (k : Nat) (a0 : ByteArray) (a1 : ByteArray) (a2_0 : Int) (a2_1 : Int) : Option (Bool) := (turndownlaw06_bits.f k a0 64).bind fun t426 => ((turndownlaw06_bits.f k a1 64).bind fun t427 => (if 0 ≤ (mn (t426.size : Int) (t427.size : Int)) then (if (mn (t426.size : Int) (t427.size : Int)) ≤ (t426.size : Int) then (if (mn (t426.size : Int) (t427.size : Int)) ≤ (t427.size : Int) then ((turndownlaw06_mod.f a2_0 15).bind fun t428 => ((turndownlaw06_mod.f a2_1 15).bind fun t429 => ((code_Card.f k (t426.extract 0 ((mn (t426.size : Int) (t427.size : Int)) : Int).toNat) (wrap64 (1 + t428)) (wrap64 (1 + t429))).bind fun bt430 => ((code_Card.f k (t427.extract 0 ((mn (t426.size : Int) (t427.size : Int)) : Int).toNat) (wrap64 (1 + t428)) (wrap64 (1 + t429))).bind fun bt432 => ((turndownlaw06_sum.f (t426.extract 0 ((mn (t426.size : Int) (t427.size : Int)) : Int).toNat) (t427.extract 0 ((mn (t426.size : Int) (t427.size : Int)) : Int).toNat)).bind fun t434 => ((code_Card.f k t434 (wrap64 (1 + t428)) (wrap64 (1 + t429))).bind fun bt435 => ((code_Free.f (wrap64 (1 + t428)) (wrap64 (1 + t429))).bind fun bt437 => (if bt430.2 = 0 then (if bt432.2 = 0 then (if bt435.2 = 0 then (if bt437.2 = 0 then (if (bt430.1.size : Int) = (wrap64 ((wrap64 (2 * (mn (t426.size : Int) (t427.size : Int)))) + 6)) then (if (bt432.1.size : Int) = (bt430.1.size : Int) then ((turndownlaw06_sum.f bt430.1 bt432.1).bind fun t439 => (turndownlaw06_CodeLinear.j0 k (t426.extract 0 ((mn (t426.size : Int) (t427.size : Int)) : Int).toNat) (t427.extract 0 ((mn (t426.size : Int) (t427.size : Int)) : Int).toNat) bt430.1 bt432.1 bt437.1 (bt435.1.toList != t439.toList))) else (turndownlaw06_CodeLinear.j0 k (t426.extract 0 ((mn (t426.size : Int) (t427.size : Int)) : Int).toNat) (t427.extract 0 ((mn (t426.size : Int) (t427.size : Int)) : Int).toNat) bt430.1 bt432.1 bt437.1 true)) else (turndownlaw06_CodeLinear.j0 k (t426.extract 0 ((mn (t426.size : Int) (t427.size : Int)) : Int).toNat) (t427.extract 0 ((mn (t426.size : Int) (t427.size : Int)) : Int).toNat) bt430.1 bt432.1 bt437.1 true)) else (turndownlaw06_CodeLinear.j0 k (t426.extract 0 ((mn (t426.size : Int) (t427.size : Int)) : Int).toNat) (t427.extract 0 ((mn (t426.size : Int) (t427.size : Int)) : Int).toNat) bt430.1 bt432.1 bt437.1 true)) else (turndownlaw06_CodeLinear.j0 k (t426.extract 0 ((mn (t426.size : Int) (t427.size : Int)) : Int).toNat) (t427.extract 0 ((mn (t426.size : Int) (t427.size : Int)) : Int).toNat) bt430.1 bt432.1 bt437.1 true)) else (turndownlaw06_CodeLinear.j0 k (t426.extract 0 ((mn (t426.size : Int) (t427.size : Int)) : Int).toNat) (t427.extract 0 ((mn (t426.size : Int) (t427.size : Int)) : Int).toNat) bt430.1 bt432.1 bt437.1 true)) else (turndownlaw06_CodeLinear.j0 k (t426.extract 0 ((mn (t426.size : Int) (t427.size : Int)) : Int).toNat) (t427.extract 0 ((mn (t426.size : Int) (t427.size : Int)) : Int).toNat) bt430.1 bt432.1 bt437.1 true))))))))) else (none)) else (none)) else (none)))
set_option maxHeartbeats 8000000 in
set_option maxRecDepth 100000 in
theorem turndownlaw06_CodeLinear.calls (k : Nat) (a0 : ByteArray) (a1 : ByteArray) (a2_0 : Int) (a2_1 : Int) (r : Bool) (w : World) (h : turndownlaw06_CodeLinear.f k a0 a1 a2_0 a2_1 = some r) :
  Calls Try.prog 11 #[.string a0, .string a1, .agg #[.int .i64 a2_0, .int .i64 a2_1]] w fun e w' => e = .returned (.bool r) ∧ Below w.heap.size w w' := by
 have hmn := @turndownlaw06_CodeLinear.min2_mn
 clear hmn
 have hu38 := Try.underlying38
 have HB := Aside0.mk (Below.refl w.heap.size w)
 have H : ((turndownlaw06_bits.f k a0 64).bind fun t426 => ((turndownlaw06_bits.f k a1 64).bind fun t427 => (if 0 ≤ (mn (t426.size : Int) (t427.size : Int)) then (if (mn (t426.size : Int) (t427.size : Int)) ≤ (t426.size : Int) then (if (mn (t426.size : Int) (t427.size : Int)) ≤ (t427.size : Int) then ((turndownlaw06_mod.f a2_0 15).bind fun t428 => ((turndownlaw06_mod.f a2_1 15).bind fun t429 => ((code_Card.f k (t426.extract 0 ((mn (t426.size : Int) (t427.size : Int)) : Int).toNat) (wrap64 (1 + t428)) (wrap64 (1 + t429))).bind fun bt430 => ((code_Card.f k (t427.extract 0 ((mn (t426.size : Int) (t427.size : Int)) : Int).toNat) (wrap64 (1 + t428)) (wrap64 (1 + t429))).bind fun bt432 => ((turndownlaw06_sum.f (t426.extract 0 ((mn (t426.size : Int) (t427.size : Int)) : Int).toNat) (t427.extract 0 ((mn (t426.size : Int) (t427.size : Int)) : Int).toNat)).bind fun t434 => ((code_Card.f k t434 (wrap64 (1 + t428)) (wrap64 (1 + t429))).bind fun bt435 => ((code_Free.f (wrap64 (1 + t428)) (wrap64 (1 + t429))).bind fun bt437 => (if bt430.2 = 0 then (if bt432.2 = 0 then (if bt435.2 = 0 then (if bt437.2 = 0 then (if (bt430.1.size : Int) = (wrap64 ((wrap64 (2 * (mn (t426.size : Int) (t427.size : Int)))) + 6)) then (if (bt432.1.size : Int) = (bt430.1.size : Int) then ((turndownlaw06_sum.f bt430.1 bt432.1).bind fun t439 => (turndownlaw06_CodeLinear.j0 k (t426.extract 0 ((mn (t426.size : Int) (t427.size : Int)) : Int).toNat) (t427.extract 0 ((mn (t426.size : Int) (t427.size : Int)) : Int).toNat) bt430.1 bt432.1 bt437.1 (bt435.1.toList != t439.toList))) else (turndownlaw06_CodeLinear.j0 k (t426.extract 0 ((mn (t426.size : Int) (t427.size : Int)) : Int).toNat) (t427.extract 0 ((mn (t426.size : Int) (t427.size : Int)) : Int).toNat) bt430.1 bt432.1 bt437.1 true)) else (turndownlaw06_CodeLinear.j0 k (t426.extract 0 ((mn (t426.size : Int) (t427.size : Int)) : Int).toNat) (t427.extract 0 ((mn (t426.size : Int) (t427.size : Int)) : Int).toNat) bt430.1 bt432.1 bt437.1 true)) else (turndownlaw06_CodeLinear.j0 k (t426.extract 0 ((mn (t426.size : Int) (t427.size : Int)) : Int).toNat) (t427.extract 0 ((mn (t426.size : Int) (t427.size : Int)) : Int).toNat) bt430.1 bt432.1 bt437.1 true)) else (turndownlaw06_CodeLinear.j0 k (t426.extract 0 ((mn (t426.size : Int) (t427.size : Int)) : Int).toNat) (t427.extract 0 ((mn (t426.size : Int) (t427.size : Int)) : Int).toNat) bt430.1 bt432.1 bt437.1 true)) else (turndownlaw06_CodeLinear.j0 k (t426.extract 0 ((mn (t426.size : Int) (t427.size : Int)) : Int).toNat) (t427.extract 0 ((mn (t426.size : Int) (t427.size : Int)) : Int).toNat) bt430.1 bt432.1 bt437.1 true)) else (turndownlaw06_CodeLinear.j0 k (t426.extract 0 ((mn (t426.size : Int) (t427.size : Int)) : Int).toNat) (t427.extract 0 ((mn (t426.size : Int) (t427.size : Int)) : Int).toNat) bt430.1 bt432.1 bt437.1 true))))))))) else (none)) else (none)) else (none)))) = some r := h
 clear h
 replace H := Option.bind_eq_some_iff.mp H
 obtain ⟨t426, A40, H⟩ := H
 replace H : ((turndownlaw06_bits.f k a1 64).bind fun t427 => (if 0 ≤ (mn (t426.size : Int) (t427.size : Int)) then (if (mn (t426.size : Int) (t427.size : Int)) ≤ (t426.size : Int) then (if (mn (t426.size : Int) (t427.size : Int)) ≤ (t427.size : Int) then ((turndownlaw06_mod.f a2_0 15).bind fun t428 => ((turndownlaw06_mod.f a2_1 15).bind fun t429 => ((code_Card.f k (t426.extract 0 ((mn (t426.size : Int) (t427.size : Int)) : Int).toNat) (wrap64 (1 + t428)) (wrap64 (1 + t429))).bind fun bt430 => ((code_Card.f k (t427.extract 0 ((mn (t426.size : Int) (t427.size : Int)) : Int).toNat) (wrap64 (1 + t428)) (wrap64 (1 + t429))).bind fun bt432 => ((turndownlaw06_sum.f (t426.extract 0 ((mn (t426.size : Int) (t427.size : Int)) : Int).toNat) (t427.extract 0 ((mn (t426.size : Int) (t427.size : Int)) : Int).toNat)).bind fun t434 => ((code_Card.f k t434 (wrap64 (1 + t428)) (wrap64 (1 + t429))).bind fun bt435 => ((code_Free.f (wrap64 (1 + t428)) (wrap64 (1 + t429))).bind fun bt437 => (if bt430.2 = 0 then (if bt432.2 = 0 then (if bt435.2 = 0 then (if bt437.2 = 0 then (if (bt430.1.size : Int) = (wrap64 ((wrap64 (2 * (mn (t426.size : Int) (t427.size : Int)))) + 6)) then (if (bt432.1.size : Int) = (bt430.1.size : Int) then ((turndownlaw06_sum.f bt430.1 bt432.1).bind fun t439 => (turndownlaw06_CodeLinear.j0 k (t426.extract 0 ((mn (t426.size : Int) (t427.size : Int)) : Int).toNat) (t427.extract 0 ((mn (t426.size : Int) (t427.size : Int)) : Int).toNat) bt430.1 bt432.1 bt437.1 (bt435.1.toList != t439.toList))) else (turndownlaw06_CodeLinear.j0 k (t426.extract 0 ((mn (t426.size : Int) (t427.size : Int)) : Int).toNat) (t427.extract 0 ((mn (t426.size : Int) (t427.size : Int)) : Int).toNat) bt430.1 bt432.1 bt437.1 true)) else (turndownlaw06_CodeLinear.j0 k (t426.extract 0 ((mn (t426.size : Int) (t427.size : Int)) : Int).toNat) (t427.extract 0 ((mn (t426.size : Int) (t427.size : Int)) : Int).toNat) bt430.1 bt432.1 bt437.1 true)) else (turndownlaw06_CodeLinear.j0 k (t426.extract 0 ((mn (t426.size : Int) (t427.size : Int)) : Int).toNat) (t427.extract 0 ((mn (t426.size : Int) (t427.size : Int)) : Int).toNat) bt430.1 bt432.1 bt437.1 true)) else (turndownlaw06_CodeLinear.j0 k (t426.extract 0 ((mn (t426.size : Int) (t427.size : Int)) : Int).toNat) (t427.extract 0 ((mn (t426.size : Int) (t427.size : Int)) : Int).toNat) bt430.1 bt432.1 bt437.1 true)) else (turndownlaw06_CodeLinear.j0 k (t426.extract 0 ((mn (t426.size : Int) (t427.size : Int)) : Int).toNat) (t427.extract 0 ((mn (t426.size : Int) (t427.size : Int)) : Int).toNat) bt430.1 bt432.1 bt437.1 true)) else (turndownlaw06_CodeLinear.j0 k (t426.extract 0 ((mn (t426.size : Int) (t427.size : Int)) : Int).toNat) (t427.extract 0 ((mn (t426.size : Int) (t427.size : Int)) : Int).toNat) bt430.1 bt432.1 bt437.1 true))))))))) else (none)) else (none)) else (none))) = some r := H
 have A4 := Aside0.mk A40
 clear A40
 replace H := Option.bind_eq_some_iff.mp H
 obtain ⟨t427, A50, H⟩ := H
 replace H : (if 0 ≤ (mn (t426.size : Int) (t427.size : Int)) then (if (mn (t426.size : Int) (t427.size : Int)) ≤ (t426.size : Int) then (if (mn (t426.size : Int) (t427.size : Int)) ≤ (t427.size : Int) then ((turndownlaw06_mod.f a2_0 15).bind fun t428 => ((turndownlaw06_mod.f a2_1 15).bind fun t429 => ((code_Card.f k (t426.extract 0 ((mn (t426.size : Int) (t427.size : Int)) : Int).toNat) (wrap64 (1 + t428)) (wrap64 (1 + t429))).bind fun bt430 => ((code_Card.f k (t427.extract 0 ((mn (t426.size : Int) (t427.size : Int)) : Int).toNat) (wrap64 (1 + t428)) (wrap64 (1 + t429))).bind fun bt432 => ((turndownlaw06_sum.f (t426.extract 0 ((mn (t426.size : Int) (t427.size : Int)) : Int).toNat) (t427.extract 0 ((mn (t426.size : Int) (t427.size : Int)) : Int).toNat)).bind fun t434 => ((code_Card.f k t434 (wrap64 (1 + t428)) (wrap64 (1 + t429))).bind fun bt435 => ((code_Free.f (wrap64 (1 + t428)) (wrap64 (1 + t429))).bind fun bt437 => (if bt430.2 = 0 then (if bt432.2 = 0 then (if bt435.2 = 0 then (if bt437.2 = 0 then (if (bt430.1.size : Int) = (wrap64 ((wrap64 (2 * (mn (t426.size : Int) (t427.size : Int)))) + 6)) then (if (bt432.1.size : Int) = (bt430.1.size : Int) then ((turndownlaw06_sum.f bt430.1 bt432.1).bind fun t439 => (turndownlaw06_CodeLinear.j0 k (t426.extract 0 ((mn (t426.size : Int) (t427.size : Int)) : Int).toNat) (t427.extract 0 ((mn (t426.size : Int) (t427.size : Int)) : Int).toNat) bt430.1 bt432.1 bt437.1 (bt435.1.toList != t439.toList))) else (turndownlaw06_CodeLinear.j0 k (t426.extract 0 ((mn (t426.size : Int) (t427.size : Int)) : Int).toNat) (t427.extract 0 ((mn (t426.size : Int) (t427.size : Int)) : Int).toNat) bt430.1 bt432.1 bt437.1 true)) else (turndownlaw06_CodeLinear.j0 k (t426.extract 0 ((mn (t426.size : Int) (t427.size : Int)) : Int).toNat) (t427.extract 0 ((mn (t426.size : Int) (t427.size : Int)) : Int).toNat) bt430.1 bt432.1 bt437.1 true)) else (turndownlaw06_CodeLinear.j0 k (t426.extract 0 ((mn (t426.size : Int) (t427.size : Int)) : Int).toNat) (t427.extract 0 ((mn (t426.size : Int) (t427.size : Int)) : Int).toNat) bt430.1 bt432.1 bt437.1 true)) else (turndownlaw06_CodeLinear.j0 k (t426.extract 0 ((mn (t426.size : Int) (t427.size : Int)) : Int).toNat) (t427.extract 0 ((mn (t426.size : Int) (t427.size : Int)) : Int).toNat) bt430.1 bt432.1 bt437.1 true)) else (turndownlaw06_CodeLinear.j0 k (t426.extract 0 ((mn (t426.size : Int) (t427.size : Int)) : Int).toNat) (t427.extract 0 ((mn (t426.size : Int) (t427.size : Int)) : Int).toNat) bt430.1 bt432.1 bt437.1 true)) else (turndownlaw06_CodeLinear.j0 k (t426.extract 0 ((mn (t426.size : Int) (t427.size : Int)) : Int).toNat) (t427.extract 0 ((mn (t426.size : Int) (t427.size : Int)) : Int).toNat) bt430.1 bt432.1 bt437.1 true))))))))) else (none)) else (none)) else (none)) = some r := H
 have A5 := Aside0.mk A50
 clear A50
 obtain ⟨ji6, hji6⟩ : ∃ j_ : Int, (mn (t426.size : Int) (t427.size : Int)) = j_ := ⟨_, rfl⟩
 replace H : (if 0 ≤ (ji6) then (if (ji6) ≤ (t426.size : Int) then (if (ji6) ≤ (t427.size : Int) then ((turndownlaw06_mod.f a2_0 15).bind fun t428 => ((turndownlaw06_mod.f a2_1 15).bind fun t429 => ((code_Card.f k (t426.extract 0 ((ji6) : Int).toNat) (wrap64 (1 + t428)) (wrap64 (1 + t429))).bind fun bt430 => ((code_Card.f k (t427.extract 0 ((ji6) : Int).toNat) (wrap64 (1 + t428)) (wrap64 (1 + t429))).bind fun bt432 => ((turndownlaw06_sum.f (t426.extract 0 ((ji6) : Int).toNat) (t427.extract 0 ((ji6) : Int).toNat)).bind fun t434 => ((code_Card.f k t434 (wrap64 (1 + t428)) (wrap64 (1 + t429))).bind fun bt435 => ((code_Free.f (wrap64 (1 + t428)) (wrap64 (1 + t429))).bind fun bt437 => (if bt430.2 = 0 then (if bt432.2 = 0 then (if bt435.2 = 0 then (if bt437.2 = 0 then (if (bt430.1.size : Int) = (wrap64 ((wrap64 (2 * (ji6))) + 6)) then (if (bt432.1.size : Int) = (bt430.1.size : Int) then ((turndownlaw06_sum.f bt430.1 bt432.1).bind fun t439 => (turndownlaw06_CodeLinear.j0 k (t426.extract 0 ((ji6) : Int).toNat) (t427.extract 0 ((ji6) : Int).toNat) bt430.1 bt432.1 bt437.1 (bt435.1.toList != t439.toList))) else (turndownlaw06_CodeLinear.j0 k (t426.extract 0 ((ji6) : Int).toNat) (t427.extract 0 ((ji6) : Int).toNat) bt430.1 bt432.1 bt437.1 true)) else (turndownlaw06_CodeLinear.j0 k (t426.extract 0 ((ji6) : Int).toNat) (t427.extract 0 ((ji6) : Int).toNat) bt430.1 bt432.1 bt437.1 true)) else (turndownlaw06_CodeLinear.j0 k (t426.extract 0 ((ji6) : Int).toNat) (t427.extract 0 ((ji6) : Int).toNat) bt430.1 bt432.1 bt437.1 true)) else (turndownlaw06_CodeLinear.j0 k (t426.extract 0 ((ji6) : Int).toNat) (t427.extract 0 ((ji6) : Int).toNat) bt430.1 bt432.1 bt437.1 true)) else (turndownlaw06_CodeLinear.j0 k (t426.extract 0 ((ji6) : Int).toNat) (t427.extract 0 ((ji6) : Int).toNat) bt430.1 bt432.1 bt437.1 true)) else (turndownlaw06_CodeLinear.j0 k (t426.extract 0 ((ji6) : Int).toNat) (t427.extract 0 ((ji6) : Int).toNat) bt430.1 bt432.1 bt437.1 true))))))))) else (none)) else (none)) else (none)) = some r := by first | (rw [hji6] at H; exact H) | (simp only [hji6] at H ⊢; exact H)
 (try rw [hji6] at A4)
 (try rw [hji6] at A5)
 (try (have hji6l : 0 ≤ ji6 := by (rw [← hji6]; unfold mn; (repeat' split) <;> omega)))
 (try (have hji6m : 0 ≤ ji6 := by omega))
 by_cases c7 : 0 ≤ (ji6)
 ·
  rw [if_pos c7] at H
  have c7b0 := eq_true c7
  have c7b1 : decide (0 ≤ (ji6)) = true := decide_eq_true c7
  clear c7
  by_cases c8 : (ji6) ≤ (t426.size : Int)
  ·
   rw [if_pos c8] at H
   have c8b0 := eq_true c8
   have c8b1 : decide ((ji6) ≤ (t426.size : Int)) = true := decide_eq_true c8
   clear c8
   have c9b0 := eq_true (of_decide_eq_true (by first | (with_reducible assumption) | assumption) : 0 ≤ (ji6))
   by_cases c10 : (ji6) ≤ (t427.size : Int)
   ·
    rw [if_pos c10] at H
    have c10b0 := eq_true c10
    have c10b1 : decide ((ji6) ≤ (t427.size : Int)) = true := decide_eq_true c10
    clear c10
    replace H := Option.bind_eq_some_iff.mp H
    obtain ⟨t428, A110, H⟩ := H
    replace H : ((turndownlaw06_mod.f a2_1 15).bind fun t429 => ((code_Card.f k (t426.extract 0 ((ji6) : Int).toNat) (wrap64 (1 + t428)) (wrap64 (1 + t429))).bind fun bt430 => ((code_Card.f k (t427.extract 0 ((ji6) : Int).toNat) (wrap64 (1 + t428)) (wrap64 (1 + t429))).bind fun bt432 => ((turndownlaw06_sum.f (t426.extract 0 ((ji6) : Int).toNat) (t427.extract 0 ((ji6) : Int).toNat)).bind fun t434 => ((code_Card.f k t434 (wrap64 (1 + t428)) (wrap64 (1 + t429))).bind fun bt435 => ((code_Free.f (wrap64 (1 + t428)) (wrap64 (1 + t429))).bind fun bt437 => (if bt430.2 = 0 then (if bt432.2 = 0 then (if bt435.2 = 0 then (if bt437.2 = 0 then (if (bt430.1.size : Int) = (wrap64 ((wrap64 (2 * (ji6))) + 6)) then (if (bt432.1.size : Int) = (bt430.1.size : Int) then ((turndownlaw06_sum.f bt430.1 bt432.1).bind fun t439 => (turndownlaw06_CodeLinear.j0 k (t426.extract 0 ((ji6) : Int).toNat) (t427.extract 0 ((ji6) : Int).toNat) bt430.1 bt432.1 bt437.1 (bt435.1.toList != t439.toList))) else (turndownlaw06_CodeLinear.j0 k (t426.extract 0 ((ji6) : Int).toNat) (t427.extract 0 ((ji6) : Int).toNat) bt430.1 bt432.1 bt437.1 true)) else (turndownlaw06_CodeLinear.j0 k (t426.extract 0 ((ji6) : Int).toNat) (t427.extract 0 ((ji6) : Int).toNat) bt430.1 bt432.1 bt437.1 true)) else (turndownlaw06_CodeLinear.j0 k (t426.extract 0 ((ji6) : Int).toNat) (t427.extract 0 ((ji6) : Int).toNat) bt430.1 bt432.1 bt437.1 true)) else (turndownlaw06_CodeLinear.j0 k (t426.extract 0 ((ji6) : Int).toNat) (t427.extract 0 ((ji6) : Int).toNat) bt430.1 bt432.1 bt437.1 true)) else (turndownlaw06_CodeLinear.j0 k (t426.extract 0 ((ji6) : Int).toNat) (t427.extract 0 ((ji6) : Int).toNat) bt430.1 bt432.1 bt437.1 true)) else (turndownlaw06_CodeLinear.j0 k (t426.extract 0 ((ji6) : Int).toNat) (t427.extract 0 ((ji6) : Int).toNat) bt430.1 bt432.1 bt437.1 true)))))))) = some r := H
    have A11 := Aside0.mk A110
    clear A110
    replace H := Option.bind_eq_some_iff.mp H
    obtain ⟨t429, A120, H⟩ := H
    replace H : ((code_Card.f k (t426.extract 0 ((ji6) : Int).toNat) (wrap64 (1 + t428)) (wrap64 (1 + t429))).bind fun bt430 => ((code_Card.f k (t427.extract 0 ((ji6) : Int).toNat) (wrap64 (1 + t428)) (wrap64 (1 + t429))).bind fun bt432 => ((turndownlaw06_sum.f (t426.extract 0 ((ji6) : Int).toNat) (t427.extract 0 ((ji6) : Int).toNat)).bind fun t434 => ((code_Card.f k t434 (wrap64 (1 + t428)) (wrap64 (1 + t429))).bind fun bt435 => ((code_Free.f (wrap64 (1 + t428)) (wrap64 (1 + t429))).bind fun bt437 => (if bt430.2 = 0 then (if bt432.2 = 0 then (if bt435.2 = 0 then (if bt437.2 = 0 then (if (bt430.1.size : Int) = (wrap64 ((wrap64 (2 * (ji6))) + 6)) then (if (bt432.1.size : Int) = (bt430.1.size : Int) then ((turndownlaw06_sum.f bt430.1 bt432.1).bind fun t439 => (turndownlaw06_CodeLinear.j0 k (t426.extract 0 ((ji6) : Int).toNat) (t427.extract 0 ((ji6) : Int).toNat) bt430.1 bt432.1 bt437.1 (bt435.1.toList != t439.toList))) else (turndownlaw06_CodeLinear.j0 k (t426.extract 0 ((ji6) : Int).toNat) (t427.extract 0 ((ji6) : Int).toNat) bt430.1 bt432.1 bt437.1 true)) else (turndownlaw06_CodeLinear.j0 k (t426.extract 0 ((ji6) : Int).toNat) (t427.extract 0 ((ji6) : Int).toNat) bt430.1 bt432.1 bt437.1 true)) else (turndownlaw06_CodeLinear.j0 k (t426.extract 0 ((ji6) : Int).toNat) (t427.extract 0 ((ji6) : Int).toNat) bt430.1 bt432.1 bt437.1 true)) else (turndownlaw06_CodeLinear.j0 k (t426.extract 0 ((ji6) : Int).toNat) (t427.extract 0 ((ji6) : Int).toNat) bt430.1 bt432.1 bt437.1 true)) else (turndownlaw06_CodeLinear.j0 k (t426.extract 0 ((ji6) : Int).toNat) (t427.extract 0 ((ji6) : Int).toNat) bt430.1 bt432.1 bt437.1 true)) else (turndownlaw06_CodeLinear.j0 k (t426.extract 0 ((ji6) : Int).toNat) (t427.extract 0 ((ji6) : Int).toNat) bt430.1 bt432.1 bt437.1 true))))))) = some r := H
    have A12 := Aside0.mk A120
    clear A120
    replace H := Option.bind_eq_some_iff.mp H
    obtain ⟨⟨t430, t431⟩, A130, H⟩ := H
    replace H : ((code_Card.f k (t427.extract 0 ((ji6) : Int).toNat) (wrap64 (1 + t428)) (wrap64 (1 + t429))).bind fun bt432 => ((turndownlaw06_sum.f (t426.extract 0 ((ji6) : Int).toNat) (t427.extract 0 ((ji6) : Int).toNat)).bind fun t434 => ((code_Card.f k t434 (wrap64 (1 + t428)) (wrap64 (1 + t429))).bind fun bt435 => ((code_Free.f (wrap64 (1 + t428)) (wrap64 (1 + t429))).bind fun bt437 => (if t431 = 0 then (if bt432.2 = 0 then (if bt435.2 = 0 then (if bt437.2 = 0 then (if (t430.size : Int) = (wrap64 ((wrap64 (2 * (ji6))) + 6)) then (if (bt432.1.size : Int) = (t430.size : Int) then ((turndownlaw06_sum.f t430 bt432.1).bind fun t439 => (turndownlaw06_CodeLinear.j0 k (t426.extract 0 ((ji6) : Int).toNat) (t427.extract 0 ((ji6) : Int).toNat) t430 bt432.1 bt437.1 (bt435.1.toList != t439.toList))) else (turndownlaw06_CodeLinear.j0 k (t426.extract 0 ((ji6) : Int).toNat) (t427.extract 0 ((ji6) : Int).toNat) t430 bt432.1 bt437.1 true)) else (turndownlaw06_CodeLinear.j0 k (t426.extract 0 ((ji6) : Int).toNat) (t427.extract 0 ((ji6) : Int).toNat) t430 bt432.1 bt437.1 true)) else (turndownlaw06_CodeLinear.j0 k (t426.extract 0 ((ji6) : Int).toNat) (t427.extract 0 ((ji6) : Int).toNat) t430 bt432.1 bt437.1 true)) else (turndownlaw06_CodeLinear.j0 k (t426.extract 0 ((ji6) : Int).toNat) (t427.extract 0 ((ji6) : Int).toNat) t430 bt432.1 bt437.1 true)) else (turndownlaw06_CodeLinear.j0 k (t426.extract 0 ((ji6) : Int).toNat) (t427.extract 0 ((ji6) : Int).toNat) t430 bt432.1 bt437.1 true)) else (turndownlaw06_CodeLinear.j0 k (t426.extract 0 ((ji6) : Int).toNat) (t427.extract 0 ((ji6) : Int).toNat) t430 bt432.1 bt437.1 true)))))) = some r := H
    have A13 := Aside0.mk A130
    clear A130
    replace H := Option.bind_eq_some_iff.mp H
    obtain ⟨⟨t432, t433⟩, A140, H⟩ := H
    replace H : ((turndownlaw06_sum.f (t426.extract 0 ((ji6) : Int).toNat) (t427.extract 0 ((ji6) : Int).toNat)).bind fun t434 => ((code_Card.f k t434 (wrap64 (1 + t428)) (wrap64 (1 + t429))).bind fun bt435 => ((code_Free.f (wrap64 (1 + t428)) (wrap64 (1 + t429))).bind fun bt437 => (if t431 = 0 then (if t433 = 0 then (if bt435.2 = 0 then (if bt437.2 = 0 then (if (t430.size : Int) = (wrap64 ((wrap64 (2 * (ji6))) + 6)) then (if (t432.size : Int) = (t430.size : Int) then ((turndownlaw06_sum.f t430 t432).bind fun t439 => (turndownlaw06_CodeLinear.j0 k (t426.extract 0 ((ji6) : Int).toNat) (t427.extract 0 ((ji6) : Int).toNat) t430 t432 bt437.1 (bt435.1.toList != t439.toList))) else (turndownlaw06_CodeLinear.j0 k (t426.extract 0 ((ji6) : Int).toNat) (t427.extract 0 ((ji6) : Int).toNat) t430 t432 bt437.1 true)) else (turndownlaw06_CodeLinear.j0 k (t426.extract 0 ((ji6) : Int).toNat) (t427.extract 0 ((ji6) : Int).toNat) t430 t432 bt437.1 true)) else (turndownlaw06_CodeLinear.j0 k (t426.extract 0 ((ji6) : Int).toNat) (t427.extract 0 ((ji6) : Int).toNat) t430 t432 bt437.1 true)) else (turndownlaw06_CodeLinear.j0 k (t426.extract 0 ((ji6) : Int).toNat) (t427.extract 0 ((ji6) : Int).toNat) t430 t432 bt437.1 true)) else (turndownlaw06_CodeLinear.j0 k (t426.extract 0 ((ji6) : Int).toNat) (t427.extract 0 ((ji6) : Int).toNat) t430 t432 bt437.1 true)) else (turndownlaw06_CodeLinear.j0 k (t426.extract 0 ((ji6) : Int).toNat) (t427.extract 0 ((ji6) : Int).toNat) t430 t432 bt437.1 true))))) = some r := H
    have A14 := Aside0.mk A140
    clear A140
    replace H := Option.bind_eq_some_iff.mp H
    obtain ⟨t434, A150, H⟩ := H
    replace H : ((code_Card.f k t434 (wrap64 (1 + t428)) (wrap64 (1 + t429))).bind fun bt435 => ((code_Free.f (wrap64 (1 + t428)) (wrap64 (1 + t429))).bind fun bt437 => (if t431 = 0 then (if t433 = 0 then (if bt435.2 = 0 then (if bt437.2 = 0 then (if (t430.size : Int) = (wrap64 ((wrap64 (2 * (ji6))) + 6)) then (if (t432.size : Int) = (t430.size : Int) then ((turndownlaw06_sum.f t430 t432).bind fun t439 => (turndownlaw06_CodeLinear.j0 k (t426.extract 0 ((ji6) : Int).toNat) (t427.extract 0 ((ji6) : Int).toNat) t430 t432 bt437.1 (bt435.1.toList != t439.toList))) else (turndownlaw06_CodeLinear.j0 k (t426.extract 0 ((ji6) : Int).toNat) (t427.extract 0 ((ji6) : Int).toNat) t430 t432 bt437.1 true)) else (turndownlaw06_CodeLinear.j0 k (t426.extract 0 ((ji6) : Int).toNat) (t427.extract 0 ((ji6) : Int).toNat) t430 t432 bt437.1 true)) else (turndownlaw06_CodeLinear.j0 k (t426.extract 0 ((ji6) : Int).toNat) (t427.extract 0 ((ji6) : Int).toNat) t430 t432 bt437.1 true)) else (turndownlaw06_CodeLinear.j0 k (t426.extract 0 ((ji6) : Int).toNat) (t427.extract 0 ((ji6) : Int).toNat) t430 t432 bt437.1 true)) else (turndownlaw06_CodeLinear.j0 k (t426.extract 0 ((ji6) : Int).toNat) (t427.extract 0 ((ji6) : Int).toNat) t430 t432 bt437.1 true)) else (turndownlaw06_CodeLinear.j0 k (t426.extract 0 ((ji6) : Int).toNat) (t427.extract 0 ((ji6) : Int).toNat) t430 t432 bt437.1 true)))) = some r := H
    have A15 := Aside0.mk A150
    clear A150
    replace H := Option.bind_eq_some_iff.mp H
    obtain ⟨⟨t435, t436⟩, A160, H⟩ := H
    replace H : ((code_Free.f (wrap64 (1 + t428)) (wrap64 (1 + t429))).bind fun bt437 => (if t431 = 0 then (if t433 = 0 then (if t436 = 0 then (if bt437.2 = 0 then (if (t430.size : Int) = (wrap64 ((wrap64 (2 * (ji6))) + 6)) then (if (t432.size : Int) = (t430.size : Int) then ((turndownlaw06_sum.f t430 t432).bind fun t439 => (turndownlaw06_CodeLinear.j0 k (t426.extract 0 ((ji6) : Int).toNat) (t427.extract 0 ((ji6) : Int).toNat) t430 t432 bt437.1 (t435.toList != t439.toList))) else (turndownlaw06_CodeLinear.j0 k (t426.extract 0 ((ji6) : Int).toNat) (t427.extract 0 ((ji6) : Int).toNat) t430 t432 bt437.1 true)) else (turndownlaw06_CodeLinear.j0 k (t426.extract 0 ((ji6) : Int).toNat) (t427.extract 0 ((ji6) : Int).toNat) t430 t432 bt437.1 true)) else (turndownlaw06_CodeLinear.j0 k (t426.extract 0 ((ji6) : Int).toNat) (t427.extract 0 ((ji6) : Int).toNat) t430 t432 bt437.1 true)) else (turndownlaw06_CodeLinear.j0 k (t426.extract 0 ((ji6) : Int).toNat) (t427.extract 0 ((ji6) : Int).toNat) t430 t432 bt437.1 true)) else (turndownlaw06_CodeLinear.j0 k (t426.extract 0 ((ji6) : Int).toNat) (t427.extract 0 ((ji6) : Int).toNat) t430 t432 bt437.1 true)) else (turndownlaw06_CodeLinear.j0 k (t426.extract 0 ((ji6) : Int).toNat) (t427.extract 0 ((ji6) : Int).toNat) t430 t432 bt437.1 true))) = some r := H
    have A16 := Aside0.mk A160
    clear A160
    replace H := Option.bind_eq_some_iff.mp H
    obtain ⟨⟨t437, t438⟩, A170, H⟩ := H
    replace H : (if t431 = 0 then (if t433 = 0 then (if t436 = 0 then (if t438 = 0 then (if (t430.size : Int) = (wrap64 ((wrap64 (2 * (ji6))) + 6)) then (if (t432.size : Int) = (t430.size : Int) then ((turndownlaw06_sum.f t430 t432).bind fun t439 => (turndownlaw06_CodeLinear.j0 k (t426.extract 0 ((ji6) : Int).toNat) (t427.extract 0 ((ji6) : Int).toNat) t430 t432 t437 (t435.toList != t439.toList))) else (turndownlaw06_CodeLinear.j0 k (t426.extract 0 ((ji6) : Int).toNat) (t427.extract 0 ((ji6) : Int).toNat) t430 t432 t437 true)) else (turndownlaw06_CodeLinear.j0 k (t426.extract 0 ((ji6) : Int).toNat) (t427.extract 0 ((ji6) : Int).toNat) t430 t432 t437 true)) else (turndownlaw06_CodeLinear.j0 k (t426.extract 0 ((ji6) : Int).toNat) (t427.extract 0 ((ji6) : Int).toNat) t430 t432 t437 true)) else (turndownlaw06_CodeLinear.j0 k (t426.extract 0 ((ji6) : Int).toNat) (t427.extract 0 ((ji6) : Int).toNat) t430 t432 t437 true)) else (turndownlaw06_CodeLinear.j0 k (t426.extract 0 ((ji6) : Int).toNat) (t427.extract 0 ((ji6) : Int).toNat) t430 t432 t437 true)) else (turndownlaw06_CodeLinear.j0 k (t426.extract 0 ((ji6) : Int).toNat) (t427.extract 0 ((ji6) : Int).toNat) t430 t432 t437 true)) = some r := H
    have A17 := Aside0.mk A170
    clear A170
    have HC18 := Aside0.mk H
    clear H
    go_enter Try.func11, Try.ntmps11
    go_upto_region 9 with (first | ((with_reducible refine gate_dst (N := 5) rfl ?_); (try (refine gate_guard (by rfl) ?_; dsimp only)); refine box_event ?hg (N := 5) ?hd (cs := #[.int .i64 a2_0, .int .i64 a2_1]) (t := 38) ?hr ?_; (case hd => rfl); (case hg => rfl); (case hr => first | (go_simp; done) | (go_simp; rfl)); intro gb425 hg w19 hbox hb; have n0_ := Aside0.mk (below_step (by repeat (first | (with_reducible first | exact HB.out | apply below_alloc | apply pw_below_drewN | apply below_drew1) | exact HB.out)) hb); have n1_ := Aside0.mk (hbox); have n2_ := Aside0.mk ((by rw [hg]; exact (below_size (by repeat (first | (with_reducible first | exact HB.out | apply below_alloc | apply pw_below_drewN | apply below_drew1) | exact HB.out))) : w.heap.size ≤ gb425)); have n3_ := Aside0.mk ((by rw [hg]; exact (below_size (by repeat (first | (with_reducible first | exact HB.out | apply below_alloc | apply pw_below_drewN | apply below_drew1) | exact HB.out))) : w.heap.size ≤ gb425)); clear HB; have HB := n0_; have BK425 := n1_; have GW425 := n2_; have GE425 := n3_; clear n0_ n1_ n2_ n3_; clear hb hbox hg) | (go_at_call 41; (with_reducible refine (turndownlaw06_bits.calls k a0 64 t426 _ A4.out).mono ?_); rintro e w20 ⟨rfl, hb⟩; have n0_ := Aside0.mk (blk_below (g := gb425) (o := .cells #[.int .i64 a2_0, .int .i64 a2_1] 38 (0, 0)) (by (with_reducible repeat (first | refine blk_drewN ?_ _ | refine blk_drew ?_ | refine blk_alloc ?_ _)); exact BK425.out) hb); have n1_ := Aside0.mk (below_step (by repeat (first | (with_reducible first | exact HB.out | apply below_alloc | apply pw_below_drewN | apply below_drew1 | refine below_set ?_ GE425.out) | exact HB.out)) hb); clear BK425; clear HB; have BK425 := n0_; have HB := n1_; clear n0_ n1_; (try clear hb); (try clear hb2); (try clear hk); (try clear hi)) | (go_at_call 41; (with_reducible refine (turndownlaw06_bits.calls k a1 64 t427 _ A5.out).mono ?_); rintro e w21 ⟨rfl, hb⟩; have n0_ := Aside0.mk (blk_below (g := gb425) (o := .cells #[.int .i64 a2_0, .int .i64 a2_1] 38 (0, 0)) (by (with_reducible repeat (first | refine blk_drewN ?_ _ | refine blk_drew ?_ | refine blk_alloc ?_ _)); exact BK425.out) hb); have n1_ := Aside0.mk (below_step (by repeat (first | (with_reducible first | exact HB.out | apply below_alloc | apply pw_below_drewN | apply below_drew1 | refine below_set ?_ GE425.out) | exact HB.out)) hb); clear BK425; clear HB; have BK425 := n0_; have HB := n1_; clear n0_ n1_; (try clear hb); (try clear hb2); (try clear hk); (try clear hi); have hcz22_0 : w21.cell? ⟨gb425, 0, none⟩ = some (.int .i64 a2_0) := (blk_cell BK425.out 0).trans rfl; have hcz22_1 : w21.cell? ⟨gb425, 1, none⟩ = some (.int .i64 a2_1) := (blk_cell BK425.out 1).trans rfl; have hfz22_0 := blk_frozen BK425.out 0; have hfz22_1 := blk_frozen BK425.out 1) | (go_at_call 39; (with_reducible refine (turndownlaw06_mod.calls a2_0 15 t428 _ A11.out).mono ?_); rintro e w' ⟨rfl, ⟨nd, rfl⟩⟩; (try first | exact ⟨rfl, _, World.drewN_drewN _ _ _⟩ | exact ⟨rfl, _, Eq.trans (World.drewN_drewN _ _ _) (congrArg (World.drewN _) (Nat.add_assoc _ _ _))⟩)) | (go_at_call 39; (with_reducible refine (turndownlaw06_mod.calls a2_1 15 t429 _ A12.out).mono ?_); rintro e w' ⟨rfl, ⟨nd, rfl⟩⟩; (try first | exact ⟨rfl, _, World.drewN_drewN _ _ _⟩ | exact ⟨rfl, _, Eq.trans (World.drewN_drewN _ _ _) (congrArg (World.drewN _) (Nat.add_assoc _ _ _))⟩)) | (go_at_call 30; (with_reducible refine (code_Card.calls k (t426.extract 0 ((ji6) : Int).toNat) (wrap64 (1 + t428)) (wrap64 (1 + t429)) t430 t431 _ A13.out).mono ?_); rintro e w23 ⟨rfl, hb⟩; have n0_ := Aside0.mk (blk_below (g := gb425) (o := .cells #[.int .i64 a2_0, .int .i64 a2_1] 38 (0, 0)) (by (with_reducible repeat (first | refine blk_drewN ?_ _ | refine blk_drew ?_ | refine blk_alloc ?_ _)); exact BK425.out) hb); have n1_ := Aside0.mk (below_step (by repeat (first | (with_reducible first | exact HB.out | apply below_alloc | apply pw_below_drewN | apply below_drew1 | refine below_set ?_ GE425.out) | exact HB.out)) hb); clear BK425; clear HB; have BK425 := n0_; have HB := n1_; clear n0_ n1_; (try clear hb); (try clear hb2); (try clear hk); (try clear hi)) | (go_at_call 30; (with_reducible refine (code_Card.calls k (t427.extract 0 ((ji6) : Int).toNat) (wrap64 (1 + t428)) (wrap64 (1 + t429)) t432 t433 _ A14.out).mono ?_); rintro e w24 ⟨rfl, hb⟩; have n0_ := Aside0.mk (blk_below (g := gb425) (o := .cells #[.int .i64 a2_0, .int .i64 a2_1] 38 (0, 0)) (by (with_reducible repeat (first | refine blk_drewN ?_ _ | refine blk_drew ?_ | refine blk_alloc ?_ _)); exact BK425.out) hb); have n1_ := Aside0.mk (below_step (by repeat (first | (with_reducible first | exact HB.out | apply below_alloc | apply pw_below_drewN | apply below_drew1 | refine below_set ?_ GE425.out) | exact HB.out)) hb); clear BK425; clear HB; have BK425 := n0_; have HB := n1_; clear n0_ n1_; (try clear hb); (try clear hb2); (try clear hk); (try clear hi)) | (go_at_call 42; (with_reducible refine (turndownlaw06_sum.calls (t426.extract 0 ((ji6) : Int).toNat) (t427.extract 0 ((ji6) : Int).toNat) t434 _ A15.out).mono ?_); rintro e w25 ⟨rfl, hb⟩; have n0_ := Aside0.mk (blk_below (g := gb425) (o := .cells #[.int .i64 a2_0, .int .i64 a2_1] 38 (0, 0)) (by (with_reducible repeat (first | refine blk_drewN ?_ _ | refine blk_drew ?_ | refine blk_alloc ?_ _)); exact BK425.out) hb); have n1_ := Aside0.mk (below_step (by repeat (first | (with_reducible first | exact HB.out | apply below_alloc | apply pw_below_drewN | apply below_drew1 | refine below_set ?_ GE425.out) | exact HB.out)) hb); clear BK425; clear HB; have BK425 := n0_; have HB := n1_; clear n0_ n1_; (try clear hb); (try clear hb2); (try clear hk); (try clear hi)) | (go_at_call 30; (with_reducible refine (code_Card.calls k t434 (wrap64 (1 + t428)) (wrap64 (1 + t429)) t435 t436 _ A16.out).mono ?_); rintro e w26 ⟨rfl, hb⟩; have n0_ := Aside0.mk (blk_below (g := gb425) (o := .cells #[.int .i64 a2_0, .int .i64 a2_1] 38 (0, 0)) (by (with_reducible repeat (first | refine blk_drewN ?_ _ | refine blk_drew ?_ | refine blk_alloc ?_ _)); exact BK425.out) hb); have n1_ := Aside0.mk (below_step (by repeat (first | (with_reducible first | exact HB.out | apply below_alloc | apply pw_below_drewN | apply below_drew1 | refine below_set ?_ GE425.out) | exact HB.out)) hb); clear BK425; clear HB; have BK425 := n0_; have HB := n1_; clear n0_ n1_; (try clear hb); (try clear hb2); (try clear hk); (try clear hi)) | (go_at_call 36; (with_reducible refine (code_Free.calls (wrap64 (1 + t428)) (wrap64 (1 + t429)) t437 t438 _ A17.out).mono ?_); rintro e w27 ⟨rfl, hb⟩; have n0_ := Aside0.mk (blk_below (g := gb425) (o := .cells #[.int .i64 a2_0, .int .i64 a2_1] 38 (0, 0)) (by (with_reducible repeat (first | refine blk_drewN ?_ _ | refine blk_drew ?_ | refine blk_alloc ?_ _)); exact BK425.out) hb); have n1_ := Aside0.mk (below_step (by repeat (first | (with_reducible first | exact HB.out | apply below_alloc | apply pw_below_drewN | apply below_drew1 | refine below_set ?_ GE425.out) | exact HB.out)) hb); clear BK425; clear HB; have BK425 := n0_; have HB := n1_; clear n0_ n1_; (try clear hb); (try clear hb2); (try clear hk); (try clear hi)))
    repeat (go_quiet (first | ((with_reducible refine gate_dst (N := 5) rfl ?_); (try (refine gate_guard (by rfl) ?_; dsimp only)); refine box_event ?hg (N := 5) ?hd (cs := #[.int .i64 a2_0, .int .i64 a2_1]) (t := 38) ?hr ?_; (case hd => rfl); (case hg => rfl); (case hr => first | (go_simp; done) | (go_simp; rfl)); intro gb425 hg w19 hbox hb; have n0_ := Aside0.mk (below_step (by repeat (first | (with_reducible first | exact HB.out | apply below_alloc | apply pw_below_drewN | apply below_drew1) | exact HB.out)) hb); have n1_ := Aside0.mk (hbox); have n2_ := Aside0.mk ((by rw [hg]; exact (below_size (by repeat (first | (with_reducible first | exact HB.out | apply below_alloc | apply pw_below_drewN | apply below_drew1) | exact HB.out))) : w.heap.size ≤ gb425)); have n3_ := Aside0.mk ((by rw [hg]; exact (below_size (by repeat (first | (with_reducible first | exact HB.out | apply below_alloc | apply pw_below_drewN | apply below_drew1) | exact HB.out))) : w.heap.size ≤ gb425)); clear HB; have HB := n0_; have BK425 := n1_; have GW425 := n2_; have GE425 := n3_; clear n0_ n1_ n2_ n3_; clear hb hbox hg) | (go_at_call 41; (with_reducible refine (turndownlaw06_bits.calls k a0 64 t426 _ A4.out).mono ?_); rintro e w20 ⟨rfl, hb⟩; have n0_ := Aside0.mk (blk_below (g := gb425) (o := .cells #[.int .i64 a2_0, .int .i64 a2_1] 38 (0, 0)) (by (with_reducible repeat (first | refine blk_drewN ?_ _ | refine blk_drew ?_ | refine blk_alloc ?_ _)); exact BK425.out) hb); have n1_ := Aside0.mk (below_step (by repeat (first | (with_reducible first | exact HB.out | apply below_alloc | apply pw_below_drewN | apply below_drew1 | refine below_set ?_ GE425.out) | exact HB.out)) hb); clear BK425; clear HB; have BK425 := n0_; have HB := n1_; clear n0_ n1_; (try clear hb); (try clear hb2); (try clear hk); (try clear hi)) | (go_at_call 41; (with_reducible refine (turndownlaw06_bits.calls k a1 64 t427 _ A5.out).mono ?_); rintro e w21 ⟨rfl, hb⟩; have n0_ := Aside0.mk (blk_below (g := gb425) (o := .cells #[.int .i64 a2_0, .int .i64 a2_1] 38 (0, 0)) (by (with_reducible repeat (first | refine blk_drewN ?_ _ | refine blk_drew ?_ | refine blk_alloc ?_ _)); exact BK425.out) hb); have n1_ := Aside0.mk (below_step (by repeat (first | (with_reducible first | exact HB.out | apply below_alloc | apply pw_below_drewN | apply below_drew1 | refine below_set ?_ GE425.out) | exact HB.out)) hb); clear BK425; clear HB; have BK425 := n0_; have HB := n1_; clear n0_ n1_; (try clear hb); (try clear hb2); (try clear hk); (try clear hi); have hcz22_0 : w21.cell? ⟨gb425, 0, none⟩ = some (.int .i64 a2_0) := (blk_cell BK425.out 0).trans rfl; have hcz22_1 : w21.cell? ⟨gb425, 1, none⟩ = some (.int .i64 a2_1) := (blk_cell BK425.out 1).trans rfl; have hfz22_0 := blk_frozen BK425.out 0; have hfz22_1 := blk_frozen BK425.out 1) | (go_at_call 39; (with_reducible refine (turndownlaw06_mod.calls a2_0 15 t428 _ A11.out).mono ?_); rintro e w' ⟨rfl, ⟨nd, rfl⟩⟩; (try first | exact ⟨rfl, _, World.drewN_drewN _ _ _⟩ | exact ⟨rfl, _, Eq.trans (World.drewN_drewN _ _ _) (congrArg (World.drewN _) (Nat.add_assoc _ _ _))⟩)) | (go_at_call 39; (with_reducible refine (turndownlaw06_mod.calls a2_1 15 t429 _ A12.out).mono ?_); rintro e w' ⟨rfl, ⟨nd, rfl⟩⟩; (try first | exact ⟨rfl, _, World.drewN_drewN _ _ _⟩ | exact ⟨rfl, _, Eq.trans (World.drewN_drewN _ _ _) (congrArg (World.drewN _) (Nat.add_assoc _ _ _))⟩)) | (go_at_call 30; (with_reducible refine (code_Card.calls k (t426.extract 0 ((ji6) : Int).toNat) (wrap64 (1 + t428)) (wrap64 (1 + t429)) t430 t431 _ A13.out).mono ?_); rintro e w23 ⟨rfl, hb⟩; have n0_ := Aside0.mk (blk_below (g := gb425) (o := .cells #[.int .i64 a2_0, .int .i64 a2_1] 38 (0, 0)) (by (with_reducible repeat (first | refine blk_drewN ?_ _ | refine blk_drew ?_ | refine blk_alloc ?_ _)); exact BK425.out) hb); have n1_ := Aside0.mk (below_step (by repeat (first | (with_reducible first | exact HB.out | apply below_alloc | apply pw_below_drewN | apply below_drew1 | refine below_set ?_ GE425.out) | exact HB.out)) hb); clear BK425; clear HB; have BK425 := n0_; have HB := n1_; clear n0_ n1_; (try clear hb); (try clear hb2); (try clear hk); (try clear hi)) | (go_at_call 30; (with_reducible refine (code_Card.calls k (t427.extract 0 ((ji6) : Int).toNat) (wrap64 (1 + t428)) (wrap64 (1 + t429)) t432 t433 _ A14.out).mono ?_); rintro e w24 ⟨rfl, hb⟩; have n0_ := Aside0.mk (blk_below (g := gb425) (o := .cells #[.int .i64 a2_0, .int .i64 a2_1] 38 (0, 0)) (by (with_reducible repeat (first | refine blk_drewN ?_ _ | refine blk_drew ?_ | refine blk_alloc ?_ _)); exact BK425.out) hb); have n1_ := Aside0.mk (below_step (by repeat (first | (with_reducible first | exact HB.out | apply below_alloc | apply pw_below_drewN | apply below_drew1 | refine below_set ?_ GE425.out) | exact HB.out)) hb); clear BK425; clear HB; have BK425 := n0_; have HB := n1_; clear n0_ n1_; (try clear hb); (try clear hb2); (try clear hk); (try clear hi)) | (go_at_call 42; (with_reducible refine (turndownlaw06_sum.calls (t426.extract 0 ((ji6) : Int).toNat) (t427.extract 0 ((ji6) : Int).toNat) t434 _ A15.out).mono ?_); rintro e w25 ⟨rfl, hb⟩; have n0_ := Aside0.mk (blk_below (g := gb425) (o := .cells #[.int .i64 a2_0, .int .i64 a2_1] 38 (0, 0)) (by (with_reducible repeat (first | refine blk_drewN ?_ _ | refine blk_drew ?_ | refine blk_alloc ?_ _)); exact BK425.out) hb); have n1_ := Aside0.mk (below_step (by repeat (first | (with_reducible first | exact HB.out | apply below_alloc | apply pw_below_drewN | apply below_drew1 | refine below_set ?_ GE425.out) | exact HB.out)) hb); clear BK425; clear HB; have BK425 := n0_; have HB := n1_; clear n0_ n1_; (try clear hb); (try clear hb2); (try clear hk); (try clear hi)) | (go_at_call 30; (with_reducible refine (code_Card.calls k t434 (wrap64 (1 + t428)) (wrap64 (1 + t429)) t435 t436 _ A16.out).mono ?_); rintro e w26 ⟨rfl, hb⟩; have n0_ := Aside0.mk (blk_below (g := gb425) (o := .cells #[.int .i64 a2_0, .int .i64 a2_1] 38 (0, 0)) (by (with_reducible repeat (first | refine blk_drewN ?_ _ | refine blk_drew ?_ | refine blk_alloc ?_ _)); exact BK425.out) hb); have n1_ := Aside0.mk (below_step (by repeat (first | (with_reducible first | exact HB.out | apply below_alloc | apply pw_below_drewN | apply below_drew1 | refine below_set ?_ GE425.out) | exact HB.out)) hb); clear BK425; clear HB; have BK425 := n0_; have HB := n1_; clear n0_ n1_; (try clear hb); (try clear hb2); (try clear hk); (try clear hi)) | (go_at_call 36; (with_reducible refine (code_Free.calls (wrap64 (1 + t428)) (wrap64 (1 + t429)) t437 t438 _ A17.out).mono ?_); rintro e w27 ⟨rfl, hb⟩; have n0_ := Aside0.mk (blk_below (g := gb425) (o := .cells #[.int .i64 a2_0, .int .i64 a2_1] 38 (0, 0)) (by (with_reducible repeat (first | refine blk_drewN ?_ _ | refine blk_drew ?_ | refine blk_alloc ?_ _)); exact BK425.out) hb); have n1_ := Aside0.mk (below_step (by repeat (first | (with_reducible first | exact HB.out | apply below_alloc | apply pw_below_drewN | apply below_drew1 | refine below_set ?_ GE425.out) | exact HB.out)) hb); clear BK425; clear HB; have BK425 := n0_; have HB := n1_; clear n0_ n1_; (try clear hb); (try clear hb2); (try clear hk); (try clear hi))); go_upto_region 9 with (first | ((with_reducible refine gate_dst (N := 5) rfl ?_); (try (refine gate_guard (by rfl) ?_; dsimp only)); refine box_event ?hg (N := 5) ?hd (cs := #[.int .i64 a2_0, .int .i64 a2_1]) (t := 38) ?hr ?_; (case hd => rfl); (case hg => rfl); (case hr => first | (go_simp; done) | (go_simp; rfl)); intro gb425 hg w19 hbox hb; have n0_ := Aside0.mk (below_step (by repeat (first | (with_reducible first | exact HB.out | apply below_alloc | apply pw_below_drewN | apply below_drew1) | exact HB.out)) hb); have n1_ := Aside0.mk (hbox); have n2_ := Aside0.mk ((by rw [hg]; exact (below_size (by repeat (first | (with_reducible first | exact HB.out | apply below_alloc | apply pw_below_drewN | apply below_drew1) | exact HB.out))) : w.heap.size ≤ gb425)); have n3_ := Aside0.mk ((by rw [hg]; exact (below_size (by repeat (first | (with_reducible first | exact HB.out | apply below_alloc | apply pw_below_drewN | apply below_drew1) | exact HB.out))) : w.heap.size ≤ gb425)); clear HB; have HB := n0_; have BK425 := n1_; have GW425 := n2_; have GE425 := n3_; clear n0_ n1_ n2_ n3_; clear hb hbox hg) | (go_at_call 41; (with_reducible refine (turndownlaw06_bits.calls k a0 64 t426 _ A4.out).mono ?_); rintro e w20 ⟨rfl, hb⟩; have n0_ := Aside0.mk (blk_below (g := gb425) (o := .cells #[.int .i64 a2_0, .int .i64 a2_1] 38 (0, 0)) (by (with_reducible repeat (first | refine blk_drewN ?_ _ | refine blk_drew ?_ | refine blk_alloc ?_ _)); exact BK425.out) hb); have n1_ := Aside0.mk (below_step (by repeat (first | (with_reducible first | exact HB.out | apply below_alloc | apply pw_below_drewN | apply below_drew1 | refine below_set ?_ GE425.out) | exact HB.out)) hb); clear BK425; clear HB; have BK425 := n0_; have HB := n1_; clear n0_ n1_; (try clear hb); (try clear hb2); (try clear hk); (try clear hi)) | (go_at_call 41; (with_reducible refine (turndownlaw06_bits.calls k a1 64 t427 _ A5.out).mono ?_); rintro e w21 ⟨rfl, hb⟩; have n0_ := Aside0.mk (blk_below (g := gb425) (o := .cells #[.int .i64 a2_0, .int .i64 a2_1] 38 (0, 0)) (by (with_reducible repeat (first | refine blk_drewN ?_ _ | refine blk_drew ?_ | refine blk_alloc ?_ _)); exact BK425.out) hb); have n1_ := Aside0.mk (below_step (by repeat (first | (with_reducible first | exact HB.out | apply below_alloc | apply pw_below_drewN | apply below_drew1 | refine below_set ?_ GE425.out) | exact HB.out)) hb); clear BK425; clear HB; have BK425 := n0_; have HB := n1_; clear n0_ n1_; (try clear hb); (try clear hb2); (try clear hk); (try clear hi); have hcz22_0 : w21.cell? ⟨gb425, 0, none⟩ = some (.int .i64 a2_0) := (blk_cell BK425.out 0).trans rfl; have hcz22_1 : w21.cell? ⟨gb425, 1, none⟩ = some (.int .i64 a2_1) := (blk_cell BK425.out 1).trans rfl; have hfz22_0 := blk_frozen BK425.out 0; have hfz22_1 := blk_frozen BK425.out 1) | (go_at_call 39; (with_reducible refine (turndownlaw06_mod.calls a2_0 15 t428 _ A11.out).mono ?_); rintro e w' ⟨rfl, ⟨nd, rfl⟩⟩; (try first | exact ⟨rfl, _, World.drewN_drewN _ _ _⟩ | exact ⟨rfl, _, Eq.trans (World.drewN_drewN _ _ _) (congrArg (World.drewN _) (Nat.add_assoc _ _ _))⟩)) | (go_at_call 39; (with_reducible refine (turndownlaw06_mod.calls a2_1 15 t429 _ A12.out).mono ?_); rintro e w' ⟨rfl, ⟨nd, rfl⟩⟩; (try first | exact ⟨rfl, _, World.drewN_drewN _ _ _⟩ | exact ⟨rfl, _, Eq.trans (World.drewN_drewN _ _ _) (congrArg (World.drewN _) (Nat.add_assoc _ _ _))⟩)) | (go_at_call 30; (with_reducible refine (code_Card.calls k (t426.extract 0 ((ji6) : Int).toNat) (wrap64 (1 + t428)) (wrap64 (1 + t429)) t430 t431 _ A13.out).mono ?_); rintro e w23 ⟨rfl, hb⟩; have n0_ := Aside0.mk (blk_below (g := gb425) (o := .cells #[.int .i64 a2_0, .int .i64 a2_1] 38 (0, 0)) (by (with_reducible repeat (first | refine blk_drewN ?_ _ | refine blk_drew ?_ | refine blk_alloc ?_ _)); exact BK425.out) hb); have n1_ := Aside0.mk (below_step (by repeat (first | (with_reducible first | exact HB.out | apply below_alloc | apply pw_below_drewN | apply below_drew1 | refine below_set ?_ GE425.out) | exact HB.out)) hb); clear BK425; clear HB; have BK425 := n0_; have HB := n1_; clear n0_ n1_; (try clear hb); (try clear hb2); (try clear hk); (try clear hi)) | (go_at_call 30; (with_reducible refine (code_Card.calls k (t427.extract 0 ((ji6) : Int).toNat) (wrap64 (1 + t428)) (wrap64 (1 + t429)) t432 t433 _ A14.out).mono ?_); rintro e w24 ⟨rfl, hb⟩; have n0_ := Aside0.mk (blk_below (g := gb425) (o := .cells #[.int .i64 a2_0, .int .i64 a2_1] 38 (0, 0)) (by (with_reducible repeat (first | refine blk_drewN ?_ _ | refine blk_drew ?_ | refine blk_alloc ?_ _)); exact BK425.out) hb); have n1_ := Aside0.mk (below_step (by repeat (first | (with_reducible first | exact HB.out | apply below_alloc | apply pw_below_drewN | apply below_drew1 | refine below_set ?_ GE425.out) | exact HB.out)) hb); clear BK425; clear HB; have BK425 := n0_; have HB := n1_; clear n0_ n1_; (try clear hb); (try clear hb2); (try clear hk); (try clear hi)) | (go_at_call 42; (with_reducible refine (turndownlaw06_sum.calls (t426.extract 0 ((ji6) : Int).toNat) (t427.extract 0 ((ji6) : Int).toNat) t434 _ A15.out).mono ?_); rintro e w25 ⟨rfl, hb⟩; have n0_ := Aside0.mk (blk_below (g := gb425) (o := .cells #[.int .i64 a2_0, .int .i64 a2_1] 38 (0, 0)) (by (with_reducible repeat (first | refine blk_drewN ?_ _ | refine blk_drew ?_ | refine blk_alloc ?_ _)); exact BK425.out) hb); have n1_ := Aside0.mk (below_step (by repeat (first | (with_reducible first | exact HB.out | apply below_alloc | apply pw_below_drewN | apply below_drew1 | refine below_set ?_ GE425.out) | exact HB.out)) hb); clear BK425; clear HB; have BK425 := n0_; have HB := n1_; clear n0_ n1_; (try clear hb); (try clear hb2); (try clear hk); (try clear hi)) | (go_at_call 30; (with_reducible refine (code_Card.calls k t434 (wrap64 (1 + t428)) (wrap64 (1 + t429)) t435 t436 _ A16.out).mono ?_); rintro e w26 ⟨rfl, hb⟩; have n0_ := Aside0.mk (blk_below (g := gb425) (o := .cells #[.int .i64 a2_0, .int .i64 a2_1] 38 (0, 0)) (by (with_reducible repeat (first | refine blk_drewN ?_ _ | refine blk_drew ?_ | refine blk_alloc ?_ _)); exact BK425.out) hb); have n1_ := Aside0.mk (below_step (by repeat (first | (with_reducible first | exact HB.out | apply below_alloc | apply pw_below_drewN | apply below_drew1 | refine below_set ?_ GE425.out) | exact HB.out)) hb); clear BK425; clear HB; have BK425 := n0_; have HB := n1_; clear n0_ n1_; (try clear hb); (try clear hb2); (try clear hk); (try clear hi)) | (go_at_call 36; (with_reducible refine (code_Free.calls (wrap64 (1 + t428)) (wrap64 (1 + t429)) t437 t438 _ A17.out).mono ?_); rintro e w27 ⟨rfl, hb⟩; have n0_ := Aside0.mk (blk_below (g := gb425) (o := .cells #[.int .i64 a2_0, .int .i64 a2_1] 38 (0, 0)) (by (with_reducible repeat (first | refine blk_drewN ?_ _ | refine blk_drew ?_ | refine blk_alloc ?_ _)); exact BK425.out) hb); have n1_ := Aside0.mk (below_step (by repeat (first | (with_reducible first | exact HB.out | apply below_alloc | apply pw_below_drewN | apply below_drew1 | refine below_set ?_ GE425.out) | exact HB.out)) hb); clear BK425; clear HB; have BK425 := n0_; have HB := n1_; clear n0_ n1_; (try clear hb); (try clear hb2); (try clear hk); (try clear hi))))
    (try simp only [Act.put, List.setIfInBounds_toArray, List.set_cons_zero, List.set_cons_succ])
    go_cut [109] (fun v109 wc => ∃ (kq : Nat) (x109_17 : Bool), v109 = .bool x109_17 ∧ Aside0 (turndownlaw06_CodeLinear.j0 kq (t426.extract 0 ((ji6) : Int).toNat) (t427.extract 0 ((ji6) : Int).toNat) t430 t432 t437 x109_17 = some r) ∧ Aside0 (kq ≤ k) ∧ Aside0 (wc.heap[gb425]? = some (.cells #[.int .i64 a2_0, .int .i64 a2_1] 38 (0, 0))) ∧ Aside0 (Below w.heap.size w wc))
    case first =>
     have H := HC18.out
     clear HC18
     by_cases c28 : t431 = 0
     ·
      rw [if_pos c28] at H
      have c28b0 : (t431 == 0) = true := beq_iff_eq.mpr c28
      have c28b1 : (t431 != 0) = false := bne_eq_false_iff_eq.mpr c28
      clear c28
      (first | rw [c28b0] | (simp only [i64_w, i32_w]; rw [c28b0]) | skip)
      by_cases c29 : t433 = 0
      ·
       rw [if_pos c29] at H
       have c29b0 : (t433 == 0) = true := beq_iff_eq.mpr c29
       have c29b1 : (t433 != 0) = false := bne_eq_false_iff_eq.mpr c29
       clear c29
       by_cases c30 : t436 = 0
       ·
        rw [if_pos c30] at H
        have c30b0 : (t436 == 0) = true := beq_iff_eq.mpr c30
        have c30b1 : (t436 != 0) = false := bne_eq_false_iff_eq.mpr c30
        clear c30
        by_cases c31 : t438 = 0
        ·
         rw [if_pos c31] at H
         have c31b0 : (t438 == 0) = true := beq_iff_eq.mpr c31
         have c31b1 : (t438 != 0) = false := bne_eq_false_iff_eq.mpr c31
         clear c31
         by_cases c32 : (t430.size : Int) = (wrap64 ((wrap64 (2 * (ji6))) + 6))
         ·
          rw [if_pos c32] at H
          have c32b0 : ((t430.size : Int) == (wrap64 ((wrap64 (2 * (ji6))) + 6))) = true := beq_iff_eq.mpr c32
          have c32b1 : ((t430.size : Int) != (wrap64 ((wrap64 (2 * (ji6))) + 6))) = false := bne_eq_false_iff_eq.mpr c32
          clear c32
          by_cases c33 : (t432.size : Int) = (t430.size : Int)
          ·
           rw [if_pos c33] at H
           have c33b0 : ((t432.size : Int) == (t430.size : Int)) = true := beq_iff_eq.mpr c33
           have c33b1 : ((t432.size : Int) != (t430.size : Int)) = false := bne_eq_false_iff_eq.mpr c33
           have c33b2 : (t432.size == t430.size) = true := by first | simpa using c33 | (simp at c33 ⊢; omega)
           clear c33
           replace H := Option.bind_eq_some_iff.mp H
           obtain ⟨t439, A340, H⟩ := H
           replace H : (turndownlaw06_CodeLinear.j0 k (t426.extract 0 ((ji6) : Int).toNat) (t427.extract 0 ((ji6) : Int).toNat) t430 t432 t437 (t435.toList != t439.toList)) = some r := H
           have A34 := Aside0.mk A340
           clear A340
           have H' := Aside0.mk H
           clear H
           go_wp2_with (first | (go_at_call 42; (with_reducible refine (turndownlaw06_sum.calls t430 t432 t439 _ A34.out).mono ?_); rintro e w35 ⟨rfl, hb⟩; have n0_ := Aside0.mk (blk_below (g := gb425) (o := .cells #[.int .i64 a2_0, .int .i64 a2_1] 38 (0, 0)) (by (with_reducible repeat (first | refine blk_drewN ?_ _ | refine blk_drew ?_ | refine blk_alloc ?_ _)); exact BK425.out) hb); have n1_ := Aside0.mk (below_step (by repeat (first | (with_reducible first | exact HB.out | apply below_alloc | apply pw_below_drewN | apply below_drew1 | refine below_set ?_ GE425.out) | exact HB.out)) hb); clear BK425; clear HB; have BK425 := n0_; have HB := n1_; clear n0_ n1_; (try clear hb); (try clear hb2); (try clear hk); (try clear hi)))
           repeat (go_quiet (first | (go_at_call 42; (with_reducible refine (turndownlaw06_sum.calls t430 t432 t439 _ A34.out).mono ?_); rintro e w35 ⟨rfl, hb⟩; have n0_ := Aside0.mk (blk_below (g := gb425) (o := .cells #[.int .i64 a2_0, .int .i64 a2_1] 38 (0, 0)) (by (with_reducible repeat (first | refine blk_drewN ?_ _ | refine blk_drew ?_ | refine blk_alloc ?_ _)); exact BK425.out) hb); have n1_ := Aside0.mk (below_step (by repeat (first | (with_reducible first | exact HB.out | apply below_alloc | apply pw_below_drewN | apply below_drew1 | refine below_set ?_ GE425.out) | exact HB.out)) hb); clear BK425; clear HB; have BK425 := n0_; have HB := n1_; clear n0_ n1_; (try clear hb); (try clear hb2); (try clear hk); (try clear hi))); try go_wp2_with (first | (go_at_call 42; (with_reducible refine (turndownlaw06_sum.calls t430 t432 t439 _ A34.out).mono ?_); rintro e w35 ⟨rfl, hb⟩; have n0_ := Aside0.mk (blk_below (g := gb425) (o := .cells #[.int .i64 a2_0, .int .i64 a2_1] 38 (0, 0)) (by (with_reducible repeat (first | refine blk_drewN ?_ _ | refine blk_drew ?_ | refine blk_alloc ?_ _)); exact BK425.out) hb); have n1_ := Aside0.mk (below_step (by repeat (first | (with_reducible first | exact HB.out | apply below_alloc | apply pw_below_drewN | apply below_drew1 | refine below_set ?_ GE425.out) | exact HB.out)) hb); clear BK425; clear HB; have BK425 := n0_; have HB := n1_; clear n0_ n1_; (try clear hb); (try clear hb2); (try clear hk); (try clear hi))))
           go_meet
           case rel => exact ⟨_, ((t435.toList != t439.toList)), (by first | rfl | (simp; done) | (simp [*]; done)), H', ⟨by first | omega | exact Nat.le_refl _⟩, ⟨by (with_reducible repeat (first | refine blk_drewN ?_ _ | refine blk_drew ?_ | refine blk_alloc ?_ _)); exact BK425.out⟩, ⟨by repeat (first | (with_reducible first | exact HB.out | apply below_alloc | apply pw_below_drewN | apply below_drew1 | refine below_set ?_ GE425.out) | exact HB.out)⟩⟩
          ·
           rw [if_neg c33] at H
           have c33b0 : ((t432.size : Int) == (t430.size : Int)) = false := beq_eq_false_iff_ne.mpr c33
           have c33b1 : ((t432.size : Int) != (t430.size : Int)) = true := bne_iff_ne.mpr c33
           have c33b2 : (t432.size == t430.size) = false := by first | simpa using c33 | (simp at c33 ⊢; omega)
           have H' := Aside0.mk H
           clear H
           go_wp2
           repeat (go_quiet (fail); try go_wp2)
           go_meet
           case rel => exact ⟨_, (true), (by first | rfl | (simp; done) | (simp [*]; done)), H', ⟨by first | omega | exact Nat.le_refl _⟩, ⟨by (with_reducible repeat (first | refine blk_drewN ?_ _ | refine blk_drew ?_ | refine blk_alloc ?_ _)); exact BK425.out⟩, ⟨by repeat (first | (with_reducible first | exact HB.out | apply below_alloc | apply pw_below_drewN | apply below_drew1 | refine below_set ?_ GE425.out) | exact HB.out)⟩⟩
         ·
          rw [if_neg c32] at H
          have c32b0 : ((t430.size : Int) == (wrap64 ((wrap64 (2 * (ji6))) + 6))) = false := beq_eq_false_iff_ne.mpr c32
          have c32b1 : ((t430.size : Int) != (wrap64 ((wrap64 (2 * (ji6))) + 6))) = true := bne_iff_ne.mpr c32
          have H' := Aside0.mk H
          clear H
          go_wp2
          repeat (go_quiet (fail); try go_wp2)
          go_meet
          case rel => exact ⟨_, (true), (by first | rfl | (simp; done) | (simp [*]; done)), H', ⟨by first | omega | exact Nat.le_refl _⟩, ⟨by (with_reducible repeat (first | refine blk_drewN ?_ _ | refine blk_drew ?_ | refine blk_alloc ?_ _)); exact BK425.out⟩, ⟨by repeat (first | (with_reducible first | exact HB.out | apply below_alloc | apply pw_below_drewN | apply below_drew1 | refine below_set ?_ GE425.out) | exact HB.out)⟩⟩
        ·
         rw [if_neg c31] at H
         have c31b0 : (t438 == 0) = false := beq_eq_false_iff_ne.mpr c31
         have c31b1 : (t438 != 0) = true := bne_iff_ne.mpr c31
         have H' := Aside0.mk H
         clear H
         go_wp2
         repeat (go_quiet (fail); try go_wp2)
         go_meet
         case rel => exact ⟨_, (true), (by first | rfl | (simp; done) | (simp [*]; done)), H', ⟨by first | omega | exact Nat.le_refl _⟩, ⟨by (with_reducible repeat (first | refine blk_drewN ?_ _ | refine blk_drew ?_ | refine blk_alloc ?_ _)); exact BK425.out⟩, ⟨by repeat (first | (with_reducible first | exact HB.out | apply below_alloc | apply pw_below_drewN | apply below_drew1 | refine below_set ?_ GE425.out) | exact HB.out)⟩⟩
       ·
        rw [if_neg c30] at H
        have c30b0 : (t436 == 0) = false := beq_eq_false_iff_ne.mpr c30
        have c30b1 : (t436 != 0) = true := bne_iff_ne.mpr c30
        have H' := Aside0.mk H
        clear H
        go_wp2
        repeat (go_quiet (fail); try go_wp2)
        go_meet
        case rel => exact ⟨_, (true), (by first | rfl | (simp; done) | (simp [*]; done)), H', ⟨by first | omega | exact Nat.le_refl _⟩, ⟨by (with_reducible repeat (first | refine blk_drewN ?_ _ | refine blk_drew ?_ | refine blk_alloc ?_ _)); exact BK425.out⟩, ⟨by repeat (first | (with_reducible first | exact HB.out | apply below_alloc | apply pw_below_drewN | apply below_drew1 | refine below_set ?_ GE425.out) | exact HB.out)⟩⟩
      ·
       rw [if_neg c29] at H
       have c29b0 : (t433 == 0) = false := beq_eq_false_iff_ne.mpr c29
       have c29b1 : (t433 != 0) = true := bne_iff_ne.mpr c29
       have H' := Aside0.mk H
       clear H
       go_wp2
       repeat (go_quiet (fail); try go_wp2)
       go_meet
       case rel => exact ⟨_, (true), (by first | rfl | (simp; done) | (simp [*]; done)), H', ⟨by first | omega | exact Nat.le_refl _⟩, ⟨by (with_reducible repeat (first | refine blk_drewN ?_ _ | refine blk_drew ?_ | refine blk_alloc ?_ _)); exact BK425.out⟩, ⟨by repeat (first | (with_reducible first | exact HB.out | apply below_alloc | apply pw_below_drewN | apply below_drew1 | refine below_set ?_ GE425.out) | exact HB.out)⟩⟩
     ·
      rw [if_neg c28] at H
      have c28b0 : (t431 == 0) = false := beq_eq_false_iff_ne.mpr c28
      have c28b1 : (t431 != 0) = true := bne_iff_ne.mpr c28
      (first | rw [c28b0] | (simp only [i64_w, i32_w]; rw [c28b0]) | skip)
      have H' := Aside0.mk H
      clear H
      go_wp2
      repeat (go_quiet (fail); try go_wp2)
      go_meet
      case rel => exact ⟨_, (true), (by first | rfl | (simp; done) | (simp [*]; done)), H', ⟨by first | omega | exact Nat.le_refl _⟩, ⟨by (with_reducible repeat (first | refine blk_drewN ?_ _ | refine blk_drew ?_ | refine blk_alloc ?_ _)); exact BK425.out⟩, ⟨by repeat (first | (with_reducible first | exact HB.out | apply below_alloc | apply pw_below_drewN | apply below_drew1 | refine below_set ?_ GE425.out) | exact HB.out)⟩⟩
    case rest =>
     clear HC18
     try clear c1
     try clear c2
     try clear p2
     try clear c3
     try clear p6
     try clear c7
     try clear c7b0
     try clear c7b1
     try clear c8
     try clear c8b0
     try clear c8b1
     try clear c9
     try clear c9b0
     try clear c10
     try clear c10b0
     try clear c10b1
     try clear c11
     try clear c28
     try clear c28b0
     try clear c28b1
     try clear c29
     try clear c29b0
     try clear c29b1
     try clear c30
     try clear c30b0
     try clear c30b1
     try clear c31
     try clear c31b0
     try clear c31b1
     try clear c32
     try clear c32b0
     try clear c32b1
     try clear c33
     try clear c33b0
     try clear c33b1
     try clear c33b2
     try clear hcz22_0
     try clear hcz22_1
     try clear hfz22_0
     try clear hfz22_1
     obtain ⟨kq, x109_17, rfl, HA, HJ17, BK425, HB⟩ := hcut
     cases kq with
     | zero => exact absurd HA.out (by simp [turndownlaw06_CodeLinear.j0])
     | succ kj17 =>
      have H := HA.out
      clear HA
      simp only [turndownlaw06_CodeLinear.j0] at H
      by_cases c36 : x109_17 = true
      ·
       subst c36
       have H1 : (some false) = some r := by rw [if_pos rfl] at H; exact H
       clear H
       have H := H1
       clear H1
       obtain rfl := Option.some.inj H
       go_wp2
       repeat (go_quiet (fail); try go_wp2)
       go_ret
       exact ⟨by first | rfl | (simp [errW_none, errW_some] <;> rfl) | (simp only [← hji6]; first | rfl | (simp [errW_none, errW_some] <;> rfl)) | (simp [*, errW_none, errW_some] <;> rfl), by repeat (first | (with_reducible first | exact HB.out | apply below_alloc | apply pw_below_drewN | apply below_drew1 | refine below_set ?_ GE425.out) | exact HB.out)⟩
      ·
       replace c36 := Bool.eq_false_iff.mpr c36
       subst c36
       have H1 : (turndownlaw06_CodeLinear.l0 kj17 (t426.extract 0 ((ji6) : Int).toNat) (t427.extract 0 ((ji6) : Int).toNat) t430 t432 t437 0 0) = some r := by rw [if_neg (show ¬ (false = true) by decide)] at H; exact H
       clear H
       have H := H1
       clear H1
       have H' := Aside0.mk H
       clear H
       go_wp2
       repeat (go_quiet (fail); try go_wp2)
       go_loopg [20, 21] kj17 (fun kq v20 v21 w' => ∃ (x20_2 : Int) (x21_2 : Int), v20 = .int .i64 x20_2 ∧ v21 = .int .i64 x21_2 ∧ Aside0 (turndownlaw06_CodeLinear.l0 kq (t426.extract 0 ((ji6) : Int).toNat) (t427.extract 0 ((ji6) : Int).toNat) t430 t432 t437 x20_2 x21_2 = some r) ∧ Aside0 (kq ≤ kj17) ∧ Aside0 (w'.heap[gb425]? = some (.cells #[.int .i64 a2_0, .int .i64 a2_1] 38 (0, 0))) ∧ Aside0 (Below w.heap.size w w'))
       case atStart => exact ⟨(0), (0), (by first | rfl | (simp; done) | (simp [*]; done)), (by first | rfl | (simp; done) | (simp [*]; done)), H', ⟨Nat.le_refl _⟩, ⟨by (with_reducible repeat (first | refine blk_drewN ?_ _ | refine blk_drew ?_ | refine blk_alloc ?_ _)); exact BK425.out⟩, ⟨by repeat (first | (with_reducible first | exact HB.out | apply below_alloc | apply pw_below_drewN | apply below_drew1 | refine below_set ?_ GE425.out) | exact HB.out)⟩⟩
       case round =>
        clear H'
        try clear c1
        try clear c2
        try clear p2
        try clear c3
        try clear p6
        try clear c7
        try clear c7b0
        try clear c7b1
        try clear c8
        try clear c8b0
        try clear c8b1
        try clear c9
        try clear c9b0
        try clear c10
        try clear c10b0
        try clear c10b1
        try clear c11
        try clear c28
        try clear c28b0
        try clear c28b1
        try clear c29
        try clear c29b0
        try clear c29b1
        try clear c30
        try clear c30b0
        try clear c30b1
        try clear c31
        try clear c31b0
        try clear c31b1
        try clear c32
        try clear c32b0
        try clear c32b1
        try clear c33
        try clear c33b0
        try clear c33b1
        try clear c33b2
        try clear c36
        try clear hcz22_0
        try clear hcz22_1
        try clear hfz22_0
        try clear hfz22_1
        try clear p2
        try clear p6
        obtain ⟨x20_2, x21_2, rfl, rfl, HA, HK2, BK425, HB⟩ := hrel
        cases gk with
        | zero => exact absurd HA.out (by simp [turndownlaw06_CodeLinear.l0])
        | succ k2 =>
         have H := HA.out
         clear HA
         simp only [turndownlaw06_CodeLinear.l0] at H
         by_cases c37 : x21_2 < (t430.size : Int)
         ·
          rw [if_pos c37] at H
          have c37b0 : decide (x21_2 < (t430.size : Int)) = true := decide_eq_true c37
          clear c37
          by_cases c38 : 0 ≤ x21_2
          ·
           rw [if_pos c38] at H
           have c38b0 : decide (0 ≤ x21_2) = true := decide_eq_true c38
           clear c38
           by_cases c40 : x21_2 < (t432.size : Int)
           ·
            rw [if_pos c40] at H
            have c40b0 : decide (x21_2 < (t432.size : Int)) = true := decide_eq_true c40
            clear c40
            by_cases c42 : (bt t430 x21_2) = (bt t432 x21_2)
            ·
             rw [if_pos c42] at H
             have c42b0 : ((bt t430 x21_2) == (bt t432 x21_2)) = true := beq_iff_eq.mpr c42
             have c42b1 : ((bt t430 x21_2) != (bt t432 x21_2)) = false := bne_eq_false_iff_eq.mpr c42
             clear c42
             have H' := Aside0.mk H
             clear H
             have p39 : 0 ≤ (x21_2 : Int) := of_decide_eq_true (by first | (with_reducible assumption) | assumption)
             have q39 : x21_2 < (t430.size : Int) := of_decide_eq_true (by first | (with_reducible assumption) | assumption)
             have hx39 := bt_at t430 x21_2
             replace p39 := eq_true p39
             replace q39 := eq_true q39
             have p41 : 0 ≤ (x21_2 : Int) := of_decide_eq_true (by first | (with_reducible assumption) | assumption)
             have q41 : x21_2 < (t432.size : Int) := of_decide_eq_true (by first | (with_reducible assumption) | assumption)
             have hx41 := bt_at t432 x21_2
             replace p41 := eq_true p41
             replace q41 := eq_true q41
             go_wp2
             repeat (go_quiet (fail); try go_wp2)
             go_roundg k2
             case measure => have := HJ17.out; have := HK2.out; omega
             case rel => exact ⟨(x20_2), (wrap64 (x21_2 + 1)), (by first | rfl | (simp; done) | (simp [*]; done)), (by first | rfl | (simp; done) | (simp [*]; done)), H', ⟨by have := HJ17.out; have := HK2.out; omega⟩, ⟨by (with_reducible repeat (first | refine blk_drewN ?_ _ | refine blk_drew ?_ | refine blk_alloc ?_ _)); exact BK425.out⟩, ⟨by repeat (first | (with_reducible first | exact HB.out | apply below_alloc | apply pw_below_drewN | apply below_drew1 | refine below_set ?_ GE425.out) | exact HB.out)⟩⟩
            ·
             rw [if_neg c42] at H
             have c42b0 : ((bt t430 x21_2) == (bt t432 x21_2)) = false := beq_eq_false_iff_ne.mpr c42
             have c42b1 : ((bt t430 x21_2) != (bt t432 x21_2)) = true := bne_iff_ne.mpr c42
             have H' := Aside0.mk H
             clear H
             have p39 : 0 ≤ (x21_2 : Int) := of_decide_eq_true (by first | (with_reducible assumption) | assumption)
             have q39 : x21_2 < (t430.size : Int) := of_decide_eq_true (by first | (with_reducible assumption) | assumption)
             have hx39 := bt_at t430 x21_2
             replace p39 := eq_true p39
             replace q39 := eq_true q39
             have p41 : 0 ≤ (x21_2 : Int) := of_decide_eq_true (by first | (with_reducible assumption) | assumption)
             have q41 : x21_2 < (t432.size : Int) := of_decide_eq_true (by first | (with_reducible assumption) | assumption)
             have hx41 := bt_at t432 x21_2
             replace p41 := eq_true p41
             replace q41 := eq_true q41
             go_wp2
             repeat (go_quiet (fail); try go_wp2)
             go_roundg k2
             case measure => have := HJ17.out; have := HK2.out; omega
             case rel => exact ⟨(wrap64 (x20_2 + 1)), (wrap64 (x21_2 + 1)), (by first | rfl | (simp; done) | (simp [*]; done)), (by first | rfl | (simp; done) | (simp [*]; done)), H', ⟨by have := HJ17.out; have := HK2.out; omega⟩, ⟨by (with_reducible repeat (first | refine blk_drewN ?_ _ | refine blk_drew ?_ | refine blk_alloc ?_ _)); exact BK425.out⟩, ⟨by repeat (first | (with_reducible first | exact HB.out | apply below_alloc | apply pw_below_drewN | apply below_drew1 | refine below_set ?_ GE425.out) | exact HB.out)⟩⟩
           ·
            rw [if_neg c40] at H
            exact absurd H (by simp)
          ·
           rw [if_neg c38] at H
           exact absurd H (by simp)
         ·
          rw [if_neg c37] at H
          have c37b0 : decide (x21_2 < (t430.size : Int)) = false := decide_eq_false c37
          clear c37
          by_cases c44 : (t426.extract 0 ((ji6) : Int).toNat).toList = (t427.extract 0 ((ji6) : Int).toNat).toList
          ·
           have c44b0 : ((t426.extract 0 ((ji6) : Int).toNat).toList == (t427.extract 0 ((ji6) : Int).toNat).toList) = true := beq_iff_eq.mpr c44
           have c44b1 : ((t426.extract 0 ((ji6) : Int).toNat).toList != (t427.extract 0 ((ji6) : Int).toNat).toList) = false := bne_eq_false_iff_eq.mpr c44
           by_cases e2 : x20_2 = 0
           ·
            have e2b : (x20_2 == 0) = true := beq_iff_eq.mpr e2
            have e2c : decide (x20_2 = 0) = true := decide_eq_true e2
            rw [if_pos (show (((t426.extract 0 ((ji6) : Int).toNat).toList == (t427.extract 0 ((ji6) : Int).toNat).toList) == (x20_2 == 0)) = true by rw [c44b0, e2b]; rfl), if_pos c44] at H
            clear c44 e2
            replace H := Option.bind_eq_some_iff.mp H
            obtain ⟨t440, A450, H⟩ := H
            replace H : (some t440) = some r := H
            have A45 := Aside0.mk A450
            clear A450
            obtain rfl := Option.some.inj H
            go_wp2_with (first | (go_at_call 22; (with_reducible refine (turndownlaw06_awake.calls k2  t440 _ A45.out).mono ?_); rintro e w46 ⟨rfl, hb⟩; have n0_ := Aside0.mk (blk_below (g := gb425) (o := .cells #[.int .i64 a2_0, .int .i64 a2_1] 38 (0, 0)) (by (with_reducible repeat (first | refine blk_drewN ?_ _ | refine blk_drew ?_ | refine blk_alloc ?_ _)); exact BK425.out) hb); have n1_ := Aside0.mk (below_step (by repeat (first | (with_reducible first | exact HB.out | apply below_alloc | apply pw_below_drewN | apply below_drew1 | refine below_set ?_ GE425.out) | exact HB.out)) hb); clear BK425; clear HB; have BK425 := n0_; have HB := n1_; clear n0_ n1_; (try clear hb); (try clear hb2); (try clear hk); (try clear hi)))
            repeat (go_quiet (first | (go_at_call 22; (with_reducible refine (turndownlaw06_awake.calls k2  t440 _ A45.out).mono ?_); rintro e w46 ⟨rfl, hb⟩; have n0_ := Aside0.mk (blk_below (g := gb425) (o := .cells #[.int .i64 a2_0, .int .i64 a2_1] 38 (0, 0)) (by (with_reducible repeat (first | refine blk_drewN ?_ _ | refine blk_drew ?_ | refine blk_alloc ?_ _)); exact BK425.out) hb); have n1_ := Aside0.mk (below_step (by repeat (first | (with_reducible first | exact HB.out | apply below_alloc | apply pw_below_drewN | apply below_drew1 | refine below_set ?_ GE425.out) | exact HB.out)) hb); clear BK425; clear HB; have BK425 := n0_; have HB := n1_; clear n0_ n1_; (try clear hb); (try clear hb2); (try clear hk); (try clear hi))); try go_wp2_with (first | (go_at_call 22; (with_reducible refine (turndownlaw06_awake.calls k2  t440 _ A45.out).mono ?_); rintro e w46 ⟨rfl, hb⟩; have n0_ := Aside0.mk (blk_below (g := gb425) (o := .cells #[.int .i64 a2_0, .int .i64 a2_1] 38 (0, 0)) (by (with_reducible repeat (first | refine blk_drewN ?_ _ | refine blk_drew ?_ | refine blk_alloc ?_ _)); exact BK425.out) hb); have n1_ := Aside0.mk (below_step (by repeat (first | (with_reducible first | exact HB.out | apply below_alloc | apply pw_below_drewN | apply below_drew1 | refine below_set ?_ GE425.out) | exact HB.out)) hb); clear BK425; clear HB; have BK425 := n0_; have HB := n1_; clear n0_ n1_; (try clear hb); (try clear hb2); (try clear hk); (try clear hi))))
            go_ret
            exact ⟨by first | rfl | (simp [errW_none, errW_some] <;> rfl) | (simp only [← hji6]; first | rfl | (simp [errW_none, errW_some] <;> rfl)) | (simp [*, errW_none, errW_some] <;> rfl), by repeat (first | (with_reducible first | exact HB.out | apply below_alloc | apply pw_below_drewN | apply below_drew1 | refine below_set ?_ GE425.out) | exact HB.out)⟩
           ·
            have e2b : (x20_2 == 0) = false := beq_eq_false_iff_ne.mpr e2
            have e2c : decide (x20_2 = 0) = false := decide_eq_false e2
            rw [if_neg (show ¬ (((t426.extract 0 ((ji6) : Int).toNat).toList == (t427.extract 0 ((ji6) : Int).toNat).toList) == (x20_2 == 0)) = true by rw [c44b0, e2b]; decide)] at H
            clear c44 e2
            obtain rfl := Option.some.inj H
            go_wp2
            repeat (go_quiet (fail); try go_wp2)
            go_ret
            exact ⟨by first | rfl | (simp [errW_none, errW_some] <;> rfl) | (simp only [← hji6]; first | rfl | (simp [errW_none, errW_some] <;> rfl)) | (simp [*, errW_none, errW_some] <;> rfl), by repeat (first | (with_reducible first | exact HB.out | apply below_alloc | apply pw_below_drewN | apply below_drew1 | refine below_set ?_ GE425.out) | exact HB.out)⟩
          ·
           have c44b0 : ((t426.extract 0 ((ji6) : Int).toNat).toList == (t427.extract 0 ((ji6) : Int).toNat).toList) = false := beq_eq_false_iff_ne.mpr c44
           have c44b1 : ((t426.extract 0 ((ji6) : Int).toNat).toList != (t427.extract 0 ((ji6) : Int).toNat).toList) = true := bne_iff_ne.mpr c44
           by_cases e2 : x20_2 = 0
           ·
            have e2b : (x20_2 == 0) = true := beq_iff_eq.mpr e2
            have e2c : decide (x20_2 = 0) = true := decide_eq_true e2
            rw [if_neg (show ¬ (((t426.extract 0 ((ji6) : Int).toNat).toList == (t427.extract 0 ((ji6) : Int).toNat).toList) == (x20_2 == 0)) = true by rw [c44b0, e2b]; decide)] at H
            clear c44 e2
            obtain rfl := Option.some.inj H
            go_wp2
            repeat (go_quiet (fail); try go_wp2)
            go_ret
            exact ⟨by first | rfl | (simp [errW_none, errW_some] <;> rfl) | (simp only [← hji6]; first | rfl | (simp [errW_none, errW_some] <;> rfl)) | (simp [*, errW_none, errW_some] <;> rfl), by repeat (first | (with_reducible first | exact HB.out | apply below_alloc | apply pw_below_drewN | apply below_drew1 | refine below_set ?_ GE425.out) | exact HB.out)⟩
           ·
            have e2b : (x20_2 == 0) = false := beq_eq_false_iff_ne.mpr e2
            have e2c : decide (x20_2 = 0) = false := decide_eq_false e2
            rw [if_pos (show (((t426.extract 0 ((ji6) : Int).toNat).toList == (t427.extract 0 ((ji6) : Int).toNat).toList) == (x20_2 == 0)) = true by rw [c44b0, e2b]; rfl), if_neg c44] at H
            clear c44 e2
            by_cases c47 : x20_2 ≥ t437
            ·
             rw [if_pos c47] at H
             have c47b0 : decide (t437 ≤ x20_2) = true := decide_eq_true c47
             clear c47
             replace H := Option.bind_eq_some_iff.mp H
             obtain ⟨t441, A480, H⟩ := H
             replace H : (some t441) = some r := H
             have A48 := Aside0.mk A480
             clear A480
             obtain rfl := Option.some.inj H
             go_wp2_with (first | (go_at_call 22; (with_reducible refine (turndownlaw06_awake.calls k2  t441 _ A48.out).mono ?_); rintro e w49 ⟨rfl, hb⟩; have n0_ := Aside0.mk (blk_below (g := gb425) (o := .cells #[.int .i64 a2_0, .int .i64 a2_1] 38 (0, 0)) (by (with_reducible repeat (first | refine blk_drewN ?_ _ | refine blk_drew ?_ | refine blk_alloc ?_ _)); exact BK425.out) hb); have n1_ := Aside0.mk (below_step (by repeat (first | (with_reducible first | exact HB.out | apply below_alloc | apply pw_below_drewN | apply below_drew1 | refine below_set ?_ GE425.out) | exact HB.out)) hb); clear BK425; clear HB; have BK425 := n0_; have HB := n1_; clear n0_ n1_; (try clear hb); (try clear hb2); (try clear hk); (try clear hi)))
             repeat (go_quiet (first | (go_at_call 22; (with_reducible refine (turndownlaw06_awake.calls k2  t441 _ A48.out).mono ?_); rintro e w49 ⟨rfl, hb⟩; have n0_ := Aside0.mk (blk_below (g := gb425) (o := .cells #[.int .i64 a2_0, .int .i64 a2_1] 38 (0, 0)) (by (with_reducible repeat (first | refine blk_drewN ?_ _ | refine blk_drew ?_ | refine blk_alloc ?_ _)); exact BK425.out) hb); have n1_ := Aside0.mk (below_step (by repeat (first | (with_reducible first | exact HB.out | apply below_alloc | apply pw_below_drewN | apply below_drew1 | refine below_set ?_ GE425.out) | exact HB.out)) hb); clear BK425; clear HB; have BK425 := n0_; have HB := n1_; clear n0_ n1_; (try clear hb); (try clear hb2); (try clear hk); (try clear hi))); try go_wp2_with (first | (go_at_call 22; (with_reducible refine (turndownlaw06_awake.calls k2  t441 _ A48.out).mono ?_); rintro e w49 ⟨rfl, hb⟩; have n0_ := Aside0.mk (blk_below (g := gb425) (o := .cells #[.int .i64 a2_0, .int .i64 a2_1] 38 (0, 0)) (by (with_reducible repeat (first | refine blk_drewN ?_ _ | refine blk_drew ?_ | refine blk_alloc ?_ _)); exact BK425.out) hb); have n1_ := Aside0.mk (below_step (by repeat (first | (with_reducible first | exact HB.out | apply below_alloc | apply pw_below_drewN | apply below_drew1 | refine below_set ?_ GE425.out) | exact HB.out)) hb); clear BK425; clear HB; have BK425 := n0_; have HB := n1_; clear n0_ n1_; (try clear hb); (try clear hb2); (try clear hk); (try clear hi))))
             go_ret
             exact ⟨by first | rfl | (simp [errW_none, errW_some] <;> rfl) | (simp only [← hji6]; first | rfl | (simp [errW_none, errW_some] <;> rfl)) | (simp [*, errW_none, errW_some] <;> rfl), by repeat (first | (with_reducible first | exact HB.out | apply below_alloc | apply pw_below_drewN | apply below_drew1 | refine below_set ?_ GE425.out) | exact HB.out)⟩
            ·
             rw [if_neg c47] at H
             have c47b0 : decide (t437 ≤ x20_2) = false := decide_eq_false c47
             clear c47
             obtain rfl := Option.some.inj H
             go_wp2
             repeat (go_quiet (fail); try go_wp2)
             go_ret
             exact ⟨by first | rfl | (simp [errW_none, errW_some] <;> rfl) | (simp only [← hji6]; first | rfl | (simp [errW_none, errW_some] <;> rfl)) | (simp [*, errW_none, errW_some] <;> rfl), by repeat (first | (with_reducible first | exact HB.out | apply below_alloc | apply pw_below_drewN | apply below_drew1 | refine below_set ?_ GE425.out) | exact HB.out)⟩
   ·
    rw [if_neg c10] at H
    exact absurd H (by simp)
  ·
   rw [if_neg c8] at H
   exact absurd H (by simp)
 ·
  rw [if_neg c7] at H
  exact absurd H (by simp)
end Go.Proofs.Ytcpojohpmcnnhaa.PA

set_option linter.unusedVariables false
set_option linter.unusedSimpArgs false
namespace Go.Proofs.Ytcpojohpmcnnhaa.Pure
open Go.RowKit Go.Proofs.Ytcpojohpmcnnhaa.PA Go.Proofs.YtcpojohpmcnnhaaW.PrintWords Go.Proofs.YtcpojohpmcnnhaaW.PrintLast Go.Proofs.Ytcpojohpmcnnhaa.L Go.Proofs.Ytcpojohpmcnnhaa.A
theorem linear_l0 (u v p q : ByteArray) (free : Int) (hpq : p.size = q.size) (hps : p.size ≤ 1000)
    (hend : ((u.toList == v.toList) == (distB p.data.toList q.data.toList p.size == 0)) = true ∧ (¬ u.toList = v.toList → distB p.data.toList q.data.toList p.size ≥ free)) :
    Ev (fun k => turndownlaw06_CodeLinear.l0 k u v p q free 0 0) true := by
  have hd : ∀ k, 0 ≤ distB p.data.toList q.data.toList k ∧ distB p.data.toList q.data.toList k ≤ k := by
    intro k
    induction k with
    | zero => exact ⟨Int.le_refl _, Int.le_refl _⟩
    | succ k ih =>
      rw [distB]
      split <;> omega
  have key : ∀ e i, i + e = p.size → Ev (fun k => turndownlaw06_CodeLinear.l0 k u v p q free (distB p.data.toList q.data.toList i) (i : Int)) true := by
    intro e
    induction e with
    | zero =>
      intro i hi
      obtain rfl : i = p.size := by omega
      refine Ev.step (fun k => ?_) (Ev.bind (f := fun _ t => some t) awake_ev (Ev.now _))
      rw [turndownlaw06_CodeLinear.l0, if_neg (by omega), if_pos hend.1]
      by_cases h : u.toList = v.toList
      · rw [if_pos h]
      · rw [if_neg h, if_pos (hend.2 h)]
    | succ e ih =>
      intro i hi
      have h1 := ih (i + 1) (by omega)
      rw [distB] at h1
      have hb1 := bt_nat p (q := i) (by omega)
      have hb2 := bt_nat q (q := i) (by omega)
      have hdi := hd i
      by_cases hc : p.data.toList.getD i 0 = q.data.toList.getD i 0
      · rw [if_pos hc, Int.add_zero] at h1
        refine Ev.step (fun k => ?_) h1
        rw [turndownlaw06_CodeLinear.l0, if_pos (by omega), if_pos (by omega), if_pos (by omega), hb1, hb2, if_pos (by rw [hc]), L.w1 (by omega)]
      · rw [if_neg hc] at h1
        refine Ev.step (fun k => ?_) h1
        have hne : ¬ ((p.data.toList.getD i 0).toNat : Int) = ((q.data.toList.getD i 0).toNat : Int) := fun h => hc (UInt8.toNat_inj.1 (by omega))
        rw [turndownlaw06_CodeLinear.l0, if_pos (by omega), if_pos (by omega), if_pos (by omega), hb1, hb2, if_neg hne, L.w1 (by omega), wsm (by omega)]
  exact key p.size 0 (by omega)
theorem CodeLinear (a b : ByteArray) (x y : Int) : ∃ k, turndownlaw06_CodeLinear.f k a b x y = some true := by
  obtain ⟨m1, E1, s1, b1⟩ := msg_ev a (most := 64) (by omega)
  obtain ⟨m2, E2, s2, b2⟩ := msg_ev b (most := 64) (by omega)
  obtain ⟨n, hn⟩ : ∃ n : Nat, mn (m1.size : Int) (m2.size : Int) = (n : Int) := ⟨min m1.size m2.size, by unfold mn; split <;> omega⟩
  have hn1 : n ≤ m1.size := by unfold mn at hn; split at hn <;> omega
  have hn2 : n ≤ m2.size := by unfold mn at hn; split at hn <;> omega
  obtain ⟨u, hu⟩ : ∃ u, m1.extract 0 n = u := ⟨_, rfl⟩
  obtain ⟨v, hv⟩ : ∃ v, m2.extract 0 n = v := ⟨_, rfl⟩
  have hub := cut_bits b1 n hn1
  have hvb := cut_bits b2 n hn2
  rw [hu] at hub
  rw [hv] at hvb
  have hx := modI_bd x (n := 15) (by omega)
  have hy := modI_bd y (n := 15) (by omega)
  obtain ⟨G, hG⟩ : ∃ G, wrap64 (1 + modI x 15) = G := ⟨_, rfl⟩
  obtain ⟨H, hH⟩ : ∃ H, wrap64 (1 + modI y 15) = H := ⟨_, rfl⟩
  have hG1 : 1 ≤ G ∧ G ≤ 15 := by rw [← hG, wsm (by omega)]; omega
  have hH1 : 1 ≤ H ∧ H ≤ 15 := by rw [← hH, wsm (by omega)]; omega
  have hsz : u.size = v.size := by rw [hub.2, hvb.2]
  have hws := sumS_size hsz
  have tG : tapB G = true := by unfold tapB; simp; omega
  have tH : tapB H = true := by unfold tapB; simp; omega
  have good : ∀ s : ByteArray, s.size ≤ 64 → bitsS s = true → cardR s G H = (cardS s G H, 0) := by
    intro s h1 h2
    unfold cardR
    rw [if_pos (by unfold goodS; rw [h2, tG, tH, decide_eq_true h1]; rfl)]
  have c1 := card_ev u G H (by omega)
  have c2 := card_ev v G H (by omega)
  have c3 := card_ev (sumS u v) G H (by omega)
  rw [good u (by omega) hub.1] at c1
  rw [good v (by omega) hvb.1] at c2
  rw [good (sumS u v) (by omega) bits_sum] at c3
  have hsum := sum_f hsz hub.1 hvb.1 (by omega)
  have hp := cardS_size u G H
  have hq := cardS_size v G H
  have hsum2 := sum_f (a := cardS u G H) (b := cardS v G H) (by omega) (cardS_bits _ _ _) (cardS_bits _ _ _) (by omega)
  rw [cards_sum hG1 hH1 hsz hub.1 hvb.1] at hsum2
  have hfree : code_Free.f G H = some ((freeS G.toNat H.toNat 64).1, 0) := by
    unfold code_Free.f
    rw [areTaps_all, tG, tH]
    simp only [Option.bind_some, Bool.and_self, if_true]
    unfold code_taps_free.f
    rw [if_pos (show tapsOk G H from ⟨by omega, by omega, by omega, by omega⟩)]
    rfl
  have key : Ev (fun k => turndownlaw06_CodeLinear.f k a b x y) true := by
    unfold turndownlaw06_CodeLinear.f
    refine Ev.bind E1 (Ev.bind E2 ?_)
    simp only [hn, if_pos (show (0 : Int) ≤ (n : Int) by omega), if_pos (show (n : Int) ≤ (m1.size : Int) by omega), if_pos (show (n : Int) ≤ (m2.size : Int) by omega), mod_all _ (show (1 : Int) ≤ 15 by omega) (show (15 : Int) ≤ 1000000000000 by omega), Option.bind_some, Int.toNat_natCast, hu, hv, hG, hH]
    refine Ev.bind c1 (Ev.bind c2 ?_)
    simp only [hsum, Option.bind_some]
    refine Ev.bind c3 ?_
    have hsz2 : ((cardS u G H).size : Int) = wrap64 (wrap64 (2 * (n : Int)) + 6) := by rw [wsm (x := 2 * (n : Int)) (by omega), wsm (by omega)]; omega
    have hsz3 : ((cardS v G H).size : Int) = ((cardS u G H).size : Int) := by omega
    simp only [hfree, Option.bind_some, if_true, if_pos hsz2, if_pos hsz3, hsum2, bne_self_eq_false]
    have hl := linear_l0 u v (cardS u G H) (cardS v G H) (freeS G.toNat H.toNat 64).1 (by omega) (by omega) (by
      by_cases he : u = v
      · subst he
        rw [dist_self]
        exact ⟨by simp, fun h => absurd rfl h⟩
      · have hne : ¬ u.toList = v.toList := fun h => he (toList_inj h)
        have hd := card_far hG1 hH1 hsz hub.1 hvb.1 (by omega) he
        rw [show 2 * (u.size + 3) = (cardS u G H).size by omega] at hd
        have hpos := free_pos (g := G.toNat) (h := H.toNat) (by omega) (by omega) (by omega) (by omega) 64
        refine ⟨?_, fun _ => hd⟩
        rw [beq_eq_false_iff_ne.mpr hne, beq_eq_false_iff_ne.mpr (show distB (cardS u G H).data.toList (cardS v G H).data.toList (cardS u G H).size ≠ 0 by omega)]
        rfl)
    refine Ev.step (fun k => ?_) hl
    rw [turndownlaw06_CodeLinear.j0, if_neg (by simp)]
  obtain ⟨K, hK⟩ := key
  exact ⟨K, hK K (Nat.le_refl _)⟩
end Go.Proofs.Ytcpojohpmcnnhaa.Pure

set_option linter.unusedVariables false
set_option linter.unusedSimpArgs false
namespace Go.Proofs.Ytcpojohpmcnnhaa.E
open Go.ChangeShapes Go.WideShapes Go.ChangeAt Go.RowKit Go.Deep
open Go.Proofs.YtcpojohpmcnnhaaW.PrintWords Go.Proofs.YtcpojohpmcnnhaaW.PrintLast Go.Proofs.YtcpojohpmcnnhaaW.PrintMore
open Go.Proofs.Ytcpojohpmcnnhaa.PA
theorem own : ownKnob Try.prog.godebug = none := by kernel_rfl
theorem laidOut : laidOutB Try.prog = true := by kernel_rfl
variable {H : Type} {enc : TypeId × Value → H}
theorem open_int3 {W : World} {fuel : Nat} {cs : List Value} {x : DataW H × List MemPlace} (h : DataW.trod enc Try.prog W 0 (fun _ => true) true fuel 3 cs = some x) : ∃ n, cs = [.int .i64 n] ∧ x = (.lit (.int .i64 n), []) ∧ (Lit.int .i64 n).wf = true :=
  DataW.trod_int Try.underlying3 h
theorem okWide_array {P : Program} {w : World} {r : Reach} {base : Nat} {t e : TypeId} {n : Nat} {v : Value} (ht : P.underlying t = some (.array n e)) (h : Value.okWide P w r base t v) : ∃ cs, v = .agg cs ∧ cs.size = P.cellsOf t := by
  simp only [Value.okWide, ht] at h
  obtain ⟨cs, h1, h2, _⟩ := h
  exact ⟨cs, h1, h2⟩
set_option maxRecDepth 100000 in
theorem ints_of_array {W : World} {base : Nat} {t n : Nat} {v : Value} {d : DataW H} {p : List MemPlace} (ht : Try.prog.underlying t = some (.array n 3)) (hC : Try.prog.cellsOf t = n) (hv : Value.okWide Try.prog W .any base t v)
    (h : DataW.Trod enc Try.prog W 0 (fun _ => true) true t v d p) : ∃ cs : Array Value, v = .agg cs ∧ cs.size = n ∧ ∀ i, i < n → ∃ x : Int, (v.cells.toList.drop i).take 1 = [.int .i64 x] ∧ (Lit.int .i64 x).wf = true := by
  have e1 : Try.prog.cellsOf 3 = 1 := by kernel_rfl
  obtain ⟨cs, rfl, hsz⟩ := okWide_array ht hv
  obtain ⟨fuel, hf⟩ := h
  obtain ⟨xs, m, _, _, _, hl, hel⟩ := DataW.trod_array ht hf
  refine ⟨cs, rfl, by omega, fun i hi => ?_⟩
  have h1 := hel i hi
  rw [e1, Nat.mul_one] at h1
  rw [List.getElem?_eq_getElem (by omega)] at h1
  obtain ⟨x, h2, _, h3⟩ := open_int3 h1
  exact ⟨x, h2, h3⟩
theorem arr2 : ∀ {cs : Array Value}, cs.size = 2 → ∃ a b, cs = #[a, b] := by
  rintro ⟨l⟩ h
  match l, h with
  | [a, b], _ => exact ⟨a, b, rfl⟩
set_option maxRecDepth 100000 in
theorem open_arr2 {W : World} {base : Nat} {v : Value} {d : DataW H} {p : List MemPlace} (hv : Value.okWide Try.prog W .any base 38 v) (h : DataW.Trod enc Try.prog W 0 (fun _ => true) true 38 v d p) :
    ∃ a b : Int, v = .agg #[.int .i64 a, .int .i64 b] ∧ (Lit.int .i64 a).wf = true ∧ (Lit.int .i64 b).wf = true := by
  obtain ⟨cs, rfl, hsz, hc⟩ := ints_of_array Try.underlying38 (by kernel_rfl) hv h
  obtain ⟨c0, c1, rfl⟩ := arr2 hsz
  obtain ⟨a, ha, wa⟩ := hc 0 (by omega)
  obtain ⟨b, hb, wb⟩ := hc 1 (by omega)
  simp [Value.cells] at ha hb
  exact ⟨a, b, by rw [ha, hb], wa, wb⟩
end Go.Proofs.Ytcpojohpmcnnhaa.E

set_option linter.unusedVariables false
set_option linter.unusedSimpArgs false
namespace Go.Proofs.Ytcpojohpmcnnhaa.codeLinear
open Go.ChangeShapes Go.WideShapes Go.ChangeAt Go.RowKit
open Go.ChangeMaps (open_string shut_string)
open Go.Proofs.Ytcpojohpmcnnhaa.E
set_option maxRecDepth 100000 in
theorem lifted (os : Os) (started : os.Started) (H : Type) (enc : TypeId × Value → H) :
  ReturnsInHanded {} Try.checked os 11 .any (Rows.codeLinearSpec.pre6 enc Try.prog Try.f11 Rows.codeLinearRow.domain false) (Rows.codeLinearSpec.post enc Try.prog Try.f11 false true false false) := by
 refine returnsInHanded_of_change_sized (C := Try.checked) own started (by kernel_rfl) Try.func11
  (ChangeSpec.witness6 (enc := enc) (C := Try.checked) false ⟨#[], #[.string ByteArray.empty, .string ByteArray.empty, .agg #[.int .i64 0, .int .i64 0]], []⟩ 8 (by kernel_rfl) (by kernel_rfl) (by kernel_rfl) (by kernel_rfl)) ?_
 intro W base args ds gs before hval0 hW hcnd hsz0 _
 have hsz : (DataW.weightsEach Try.prog (Try.f11.params.toList ++ Rows.codeLinearSpec.plain.varTypes Try.prog) (ds ++ gs)).all (· ≤ reachBytes) = true := hsz0
 have hval : ∀ (j : Nat) t v, Try.f11.params[j]? = some t → args[j]? = some v → Value.okWide Try.prog W .any base t v := hval0
 have hW' := hW
 obtain ⟨p, q, hA0, hV, rfl, hfz, hnd⟩ := hW
 have hA : DataW.TrodAll enc Try.prog W 0 (fun _ => true) true Try.f11.params.toList args.toList ds p := hA0
 rw [Try.params11] at hA hval hsz
 obtain ⟨v0, vs0, d0, ds0, p0, q0, hargs, rfl, rfl, h0, r0⟩ := trodAll_cons hA
 obtain ⟨v1, vs1, d1, ds1, p1, q1, rfl, rfl, rfl, h1, r1⟩ := trodAll_cons r0
 obtain ⟨v2, vs2, d2, ds2, p2, q2, rfl, rfl, rfl, h2, r2⟩ := trodAll_cons r1
 obtain ⟨rfl, rfl, rfl⟩ := trodAll_nil r2
 obtain rfl : args = #[v0, v1, v2] := by cases args; simp_all
 obtain ⟨rfl, rfl⟩ := trodVars_none hV
 obtain ⟨a0, rfl, rfl, rfl, y0⟩ := open_string Try.underlying9 (hval 0 9 v0 rfl rfl) h0
 have w0 : a0.size ≤ 140737488351232 := by
  have z := sized_string hsz (j := 0) (t := 9) rfl rfl
  rw [Array.length_toList] at z
  exact z
 obtain ⟨a1, rfl, rfl, rfl, y1⟩ := open_string Try.underlying9 (hval 1 9 v1 rfl rfl) h1
 have w1 : a1.size ≤ 140737488351232 := by
  have z := sized_string hsz (j := 1) (t := 9) rfl rfl
  rw [Array.length_toList] at z
  exact z
 have k2 := h2
 have lt2 : ∀ x ∈ p2, x.block < W.heap.size := by obtain ⟨m, hm⟩ := k2; exact DataW.trod_lt m _ _ _ hm
 obtain ⟨a2, b2, rfl, w2, u2⟩ := open_arr2 (hval 2 38 v2 rfl rfl) h2
 clear hA0 hval0 hsz0 hsz
 obtain ⟨kk, hk⟩ := Pure.CodeLinear a0 a1 a2 b2
 refine (PA.turndownlaw06_CodeLinear.calls kk a0 a1 a2 b2 true W hk).mono fun e W' ⟨he, bel⟩ => ?_
 subst he
 exact ⟨_, rfl, _, _, _, [], _, [], hW', trodAll_mk1 (shut_bool Try.underlying4 _), (trodAll_cons_mk (shut_string Try.underlying9 y0) (trodAll_cons_mk (shut_string Try.underlying9 y1) (trodAll_cons_mk (Below.trod laidOut (by kernel_rfl) (of_decide_eq_true (by kernel_rfl)) k2 bel lt2) trodAll_mk0))), rfl, bel.frame _, fun h => by cases h⟩
theorem over : Rows.codeLinearRow.holds Try.pinned (OpenSpec.ofChange Rows.codeLinearSpec) :=
 OpenClaim.holds_of_wide 11 Try.f11 rfl rfl rfl rfl rfl rfl rfl ⟨rfl, rfl, rfl, rfl, rfl⟩ rfl rfl rfl rfl rfl (by kernel_rfl) Try.func11 (by kernel_rfl)
  (of_decide_eq_true (by kernel_rfl)) (by unfold Func.isWrapper; first | (rw [if_pos (by decide +kernel)]; kernel_rfl) | (rw [if_neg (by decide +kernel)]; exact ⟨rfl, rfl⟩))
  (fun os started H enc _ => lifted os started H enc)
theorem proved : Rows.CodeLinearSaid := over
end Go.Proofs.Ytcpojohpmcnnhaa.codeLinear
namespace Go.Proofs.Ytcpojohpmcnnhaa
theorem codeLinear_holds : Rows.CodeLinearSaid := codeLinear.proved
end Go.Proofs.Ytcpojohpmcnnhaa
