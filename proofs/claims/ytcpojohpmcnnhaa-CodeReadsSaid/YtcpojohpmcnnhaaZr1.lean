/- For all strings and pairs of taps the statement CodeReads holds: Go's function returns true and changes nothing that existed. -/
import Derived.Maps.AppendAt
import Derived.Test.YtcpojohpmcnnhaaRows
import Derived.WalkKit
import Derived.ProofKit
import Derived.OpenShut
import Derived.ShutString
import Derived.ChangeOld
import Derived.Below
import Derived.SizedLaws
import Derived.Deep.Slices
import Derived.Deep.Strs
import Derived.Lib.SmallJoins
import Derived.Test.YtcpojohpmcnnhaaZq9
set_option linter.unusedSimpArgs false
set_option linter.unusedVariables false

namespace Go.Proofs.Ytcpojohpmcnnhaa.PA
open Go.RowKit Go.Proofs.YtcpojohpmcnnhaaW.PrintWords Go.Proofs.YtcpojohpmcnnhaaW.PrintLast Go.Proofs.YtcpojohpmcnnhaaW.PrintMore
attribute [local go_sem] max2_int min2_int max_two min_two max_three min_three max_four min_four
set_option linter.unusedVariables false
set_option linter.unusedSimpArgs false
def turndownref06_step.f (k : Nat) (a0 : ByteArray) (a1 : Int) (a2 : Int) (a3 : Int) (a4 : Int) (a5 : Int) : Option (Int) := if 0 ≤ (wrap64 (2 * a1)) then (if (wrap64 (2 * a1)) < (a0.size : Int) then ((turndownref06_output.f k a4 (wrap64 ((wrap64 (2 * a2)) + a3))).bind fun t292 => (if (bt a0 (wrap64 (2 * a1))) = t292 then (if 0 ≤ (wrap64 ((wrap64 (2 * a1)) + 1)) then (if (wrap64 ((wrap64 (2 * a1)) + 1)) < (a0.size : Int) then ((turndownref06_output.f k a5 (wrap64 ((wrap64 (2 * a2)) + a3))).bind fun t293 => (if (bt a0 (wrap64 ((wrap64 (2 * a1)) + 1))) = t293 then (some 0) else (some (0 + 1)))) else (none)) else (none)) else (if 0 ≤ (wrap64 ((wrap64 (2 * a1)) + 1)) then (if (wrap64 ((wrap64 (2 * a1)) + 1)) < (a0.size : Int) then ((turndownref06_output.f k a5 (wrap64 ((wrap64 (2 * a2)) + a3))).bind fun t294 => (if (bt a0 (wrap64 ((wrap64 (2 * a1)) + 1))) = t294 then (some (0 + 1)) else (some ((0 + 1) + 1)))) else (none)) else (none)))) else (none)) else (none)
set_option maxHeartbeats 8000000 in
set_option maxRecDepth 100000 in
theorem turndownref06_step.calls (k : Nat) (a0 : ByteArray) (a1 : Int) (a2 : Int) (a3 : Int) (a4 : Int) (a5 : Int) (r : Int) (w : World) (h : turndownref06_step.f k a0 a1 a2 a3 a4 a5 = some r) :
  Calls Try.prog 63 #[.string a0, .int .i64 a1, .int .i64 a2, .int .i64 a3, .int .i64 a4, .int .i64 a5] w fun e w' => e = .returned (.int .i64 r) ∧ Drawn0 w w' := by
 have H : (if 0 ≤ (wrap64 (2 * a1)) then (if (wrap64 (2 * a1)) < (a0.size : Int) then ((turndownref06_output.f k a4 (wrap64 ((wrap64 (2 * a2)) + a3))).bind fun t292 => (if (bt a0 (wrap64 (2 * a1))) = t292 then (if 0 ≤ (wrap64 ((wrap64 (2 * a1)) + 1)) then (if (wrap64 ((wrap64 (2 * a1)) + 1)) < (a0.size : Int) then ((turndownref06_output.f k a5 (wrap64 ((wrap64 (2 * a2)) + a3))).bind fun t293 => (if (bt a0 (wrap64 ((wrap64 (2 * a1)) + 1))) = t293 then (some 0) else (some (0 + 1)))) else (none)) else (none)) else (if 0 ≤ (wrap64 ((wrap64 (2 * a1)) + 1)) then (if (wrap64 ((wrap64 (2 * a1)) + 1)) < (a0.size : Int) then ((turndownref06_output.f k a5 (wrap64 ((wrap64 (2 * a2)) + a3))).bind fun t294 => (if (bt a0 (wrap64 ((wrap64 (2 * a1)) + 1))) = t294 then (some (0 + 1)) else (some ((0 + 1) + 1)))) else (none)) else (none)))) else (none)) else (none)) = some r := h
 clear h
 obtain ⟨ji7, hji7⟩ : ∃ j_ : Int, (wrap64 (2 * a1)) = j_ := ⟨_, rfl⟩
 replace H : (if 0 ≤ (ji7) then (if (ji7) < (a0.size : Int) then ((turndownref06_output.f k a4 (wrap64 ((wrap64 (2 * a2)) + a3))).bind fun t292 => (if (bt a0 (ji7)) = t292 then (if 0 ≤ (wrap64 ((ji7) + 1)) then (if (wrap64 ((ji7) + 1)) < (a0.size : Int) then ((turndownref06_output.f k a5 (wrap64 ((wrap64 (2 * a2)) + a3))).bind fun t293 => (if (bt a0 (wrap64 ((ji7) + 1))) = t293 then (some 0) else (some (0 + 1)))) else (none)) else (none)) else (if 0 ≤ (wrap64 ((ji7) + 1)) then (if (wrap64 ((ji7) + 1)) < (a0.size : Int) then ((turndownref06_output.f k a5 (wrap64 ((wrap64 (2 * a2)) + a3))).bind fun t294 => (if (bt a0 (wrap64 ((ji7) + 1))) = t294 then (some (0 + 1)) else (some ((0 + 1) + 1)))) else (none)) else (none)))) else (none)) else (none)) = some r := by first | (rw [hji7] at H; exact H) | (simp only [hji7] at H ⊢; exact H)
 have hji7w : (IntKind.i64.wrap (2 * a1)) = ji7 := (i64_w _).trans hji7
 by_cases c8 : 0 ≤ (ji7)
 ·
  rw [if_pos c8] at H
  have c8b0 : decide (0 ≤ (ji7)) = true := decide_eq_true c8
  clear c8
  by_cases c9 : (ji7) < (a0.size : Int)
  ·
   rw [if_pos c9] at H
   have c9b0 : decide ((ji7) < (a0.size : Int)) = true := decide_eq_true c9
   clear c9
   replace H := Option.bind_eq_some_iff.mp H
   obtain ⟨t292, A110, H⟩ := H
   replace H : (if (bt a0 (ji7)) = t292 then (if 0 ≤ (wrap64 ((ji7) + 1)) then (if (wrap64 ((ji7) + 1)) < (a0.size : Int) then ((turndownref06_output.f k a5 (wrap64 ((wrap64 (2 * a2)) + a3))).bind fun t293 => (if (bt a0 (wrap64 ((ji7) + 1))) = t293 then (some 0) else (some (0 + 1)))) else (none)) else (none)) else (if 0 ≤ (wrap64 ((ji7) + 1)) then (if (wrap64 ((ji7) + 1)) < (a0.size : Int) then ((turndownref06_output.f k a5 (wrap64 ((wrap64 (2 * a2)) + a3))).bind fun t294 => (if (bt a0 (wrap64 ((ji7) + 1))) = t294 then (some (0 + 1)) else (some ((0 + 1) + 1)))) else (none)) else (none))) = some r := H
   have A11 := Aside0.mk A110
   clear A110
   by_cases c12 : (bt a0 (ji7)) = t292
   ·
    rw [if_pos c12] at H
    have c12b0 : ((bt a0 (ji7)) == t292) = true := beq_iff_eq.mpr c12
    have c12b1 : ((bt a0 (ji7)) != t292) = false := bne_eq_false_iff_eq.mpr c12
    clear c12
    obtain ⟨ji13, hji13⟩ : ∃ j_ : Int, (wrap64 ((ji7) + 1)) = j_ := ⟨_, rfl⟩
    replace H : (if 0 ≤ (ji13) then (if (ji13) < (a0.size : Int) then ((turndownref06_output.f k a5 (wrap64 ((wrap64 (2 * a2)) + a3))).bind fun t293 => (if (bt a0 (ji13)) = t293 then (some 0) else (some (0 + 1)))) else (none)) else (none)) = some r := by first | (rw [hji13] at H; exact H) | (simp only [hji13] at H ⊢; exact H)
    (try rw [hji13] at A11)
    have hji13w : (IntKind.i64.wrap ((ji7) + 1)) = ji13 := (i64_w _).trans hji13
    by_cases c14 : 0 ≤ (ji13)
    ·
     rw [if_pos c14] at H
     have c14b0 : decide (0 ≤ (ji13)) = true := decide_eq_true c14
     clear c14
     by_cases c15 : (ji13) < (a0.size : Int)
     ·
      rw [if_pos c15] at H
      have c15b0 : decide ((ji13) < (a0.size : Int)) = true := decide_eq_true c15
      clear c15
      replace H := Option.bind_eq_some_iff.mp H
      obtain ⟨t293, A170, H⟩ := H
      replace H : (if (bt a0 (ji13)) = t293 then (some 0) else (some (0 + 1))) = some r := H
      have A17 := Aside0.mk A170
      clear A170
      by_cases c18 : (bt a0 (ji13)) = t293
      ·
       rw [if_pos c18] at H
       have c18b0 : ((bt a0 (ji13)) == t293) = true := beq_iff_eq.mpr c18
       have c18b1 : ((bt a0 (ji13)) != t293) = false := bne_eq_false_iff_eq.mpr c18
       clear c18
       obtain rfl := Option.some.inj H
       have p10 : 0 ≤ ((ji7) : Int) := of_decide_eq_true (by first | (with_reducible assumption) | assumption)
       have q10 : (ji7) < (a0.size : Int) := of_decide_eq_true (by first | (with_reducible assumption) | assumption)
       have hx10 := bt_at a0 (ji7)
       replace p10 := eq_true p10
       replace q10 := eq_true q10
       go_enter Try.func63, Try.ntmps63
       go_wp2_with (first | (go_at_call 61; (with_reducible refine (turndownref06_output.calls k a4 (wrap64 ((wrap64 (2 * a2)) + a3)) t292 _ A11.out).mono ?_); rintro e w' ⟨rfl, ⟨nd, rfl⟩⟩; (try first | exact ⟨rfl, _, World.drewN_drewN _ _ _⟩ | exact ⟨rfl, _, Eq.trans (World.drewN_drewN _ _ _) (congrArg (World.drewN _) (Nat.add_assoc _ _ _))⟩); have p16 : 0 ≤ ((ji13) : Int) := of_decide_eq_true (by first | (with_reducible assumption) | assumption); have q16 : (ji13) < (a0.size : Int) := of_decide_eq_true (by first | (with_reducible assumption) | assumption); have hx16 := bt_at a0 (ji13); replace p16 := eq_true p16; replace q16 := eq_true q16) | (go_at_call 61; (with_reducible refine (turndownref06_output.calls k a5 (wrap64 ((wrap64 (2 * a2)) + a3)) t293 _ A17.out).mono ?_); rintro e w' ⟨rfl, ⟨nd, rfl⟩⟩; (try first | exact ⟨rfl, _, World.drewN_drewN _ _ _⟩ | exact ⟨rfl, _, Eq.trans (World.drewN_drewN _ _ _) (congrArg (World.drewN _) (Nat.add_assoc _ _ _))⟩)))
       repeat (go_quiet (first | (go_at_call 61; (with_reducible refine (turndownref06_output.calls k a4 (wrap64 ((wrap64 (2 * a2)) + a3)) t292 _ A11.out).mono ?_); rintro e w' ⟨rfl, ⟨nd, rfl⟩⟩; (try first | exact ⟨rfl, _, World.drewN_drewN _ _ _⟩ | exact ⟨rfl, _, Eq.trans (World.drewN_drewN _ _ _) (congrArg (World.drewN _) (Nat.add_assoc _ _ _))⟩); have p16 : 0 ≤ ((ji13) : Int) := of_decide_eq_true (by first | (with_reducible assumption) | assumption); have q16 : (ji13) < (a0.size : Int) := of_decide_eq_true (by first | (with_reducible assumption) | assumption); have hx16 := bt_at a0 (ji13); replace p16 := eq_true p16; replace q16 := eq_true q16) | (go_at_call 61; (with_reducible refine (turndownref06_output.calls k a5 (wrap64 ((wrap64 (2 * a2)) + a3)) t293 _ A17.out).mono ?_); rintro e w' ⟨rfl, ⟨nd, rfl⟩⟩; (try first | exact ⟨rfl, _, World.drewN_drewN _ _ _⟩ | exact ⟨rfl, _, Eq.trans (World.drewN_drewN _ _ _) (congrArg (World.drewN _) (Nat.add_assoc _ _ _))⟩))); try go_wp2_with (first | (go_at_call 61; (with_reducible refine (turndownref06_output.calls k a4 (wrap64 ((wrap64 (2 * a2)) + a3)) t292 _ A11.out).mono ?_); rintro e w' ⟨rfl, ⟨nd, rfl⟩⟩; (try first | exact ⟨rfl, _, World.drewN_drewN _ _ _⟩ | exact ⟨rfl, _, Eq.trans (World.drewN_drewN _ _ _) (congrArg (World.drewN _) (Nat.add_assoc _ _ _))⟩); have p16 : 0 ≤ ((ji13) : Int) := of_decide_eq_true (by first | (with_reducible assumption) | assumption); have q16 : (ji13) < (a0.size : Int) := of_decide_eq_true (by first | (with_reducible assumption) | assumption); have hx16 := bt_at a0 (ji13); replace p16 := eq_true p16; replace q16 := eq_true q16) | (go_at_call 61; (with_reducible refine (turndownref06_output.calls k a5 (wrap64 ((wrap64 (2 * a2)) + a3)) t293 _ A17.out).mono ?_); rintro e w' ⟨rfl, ⟨nd, rfl⟩⟩; (try first | exact ⟨rfl, _, World.drewN_drewN _ _ _⟩ | exact ⟨rfl, _, Eq.trans (World.drewN_drewN _ _ _) (congrArg (World.drewN _) (Nat.add_assoc _ _ _))⟩))))
       go_ret
       exact ⟨by first | rfl | (simp; done) | (simp only [← hji7, ← hji13] <;> (first | rfl | simp)) | (simp [*]; done), by repeat (first | exact Drawn0.refl _ | apply Drawn0.step)⟩
      ·
       rw [if_neg c18] at H
       have c18b0 : ((bt a0 (ji13)) == t293) = false := beq_eq_false_iff_ne.mpr c18
       have c18b1 : ((bt a0 (ji13)) != t293) = true := bne_iff_ne.mpr c18
       obtain rfl := Option.some.inj H
       have p10 : 0 ≤ ((ji7) : Int) := of_decide_eq_true (by first | (with_reducible assumption) | assumption)
       have q10 : (ji7) < (a0.size : Int) := of_decide_eq_true (by first | (with_reducible assumption) | assumption)
       have hx10 := bt_at a0 (ji7)
       replace p10 := eq_true p10
       replace q10 := eq_true q10
       go_enter Try.func63, Try.ntmps63
       go_wp2_with (first | (go_at_call 61; (with_reducible refine (turndownref06_output.calls k a4 (wrap64 ((wrap64 (2 * a2)) + a3)) t292 _ A11.out).mono ?_); rintro e w' ⟨rfl, ⟨nd, rfl⟩⟩; (try first | exact ⟨rfl, _, World.drewN_drewN _ _ _⟩ | exact ⟨rfl, _, Eq.trans (World.drewN_drewN _ _ _) (congrArg (World.drewN _) (Nat.add_assoc _ _ _))⟩); have p16 : 0 ≤ ((ji13) : Int) := of_decide_eq_true (by first | (with_reducible assumption) | assumption); have q16 : (ji13) < (a0.size : Int) := of_decide_eq_true (by first | (with_reducible assumption) | assumption); have hx16 := bt_at a0 (ji13); replace p16 := eq_true p16; replace q16 := eq_true q16) | (go_at_call 61; (with_reducible refine (turndownref06_output.calls k a5 (wrap64 ((wrap64 (2 * a2)) + a3)) t293 _ A17.out).mono ?_); rintro e w' ⟨rfl, ⟨nd, rfl⟩⟩; (try first | exact ⟨rfl, _, World.drewN_drewN _ _ _⟩ | exact ⟨rfl, _, Eq.trans (World.drewN_drewN _ _ _) (congrArg (World.drewN _) (Nat.add_assoc _ _ _))⟩)))
       repeat (go_quiet (first | (go_at_call 61; (with_reducible refine (turndownref06_output.calls k a4 (wrap64 ((wrap64 (2 * a2)) + a3)) t292 _ A11.out).mono ?_); rintro e w' ⟨rfl, ⟨nd, rfl⟩⟩; (try first | exact ⟨rfl, _, World.drewN_drewN _ _ _⟩ | exact ⟨rfl, _, Eq.trans (World.drewN_drewN _ _ _) (congrArg (World.drewN _) (Nat.add_assoc _ _ _))⟩); have p16 : 0 ≤ ((ji13) : Int) := of_decide_eq_true (by first | (with_reducible assumption) | assumption); have q16 : (ji13) < (a0.size : Int) := of_decide_eq_true (by first | (with_reducible assumption) | assumption); have hx16 := bt_at a0 (ji13); replace p16 := eq_true p16; replace q16 := eq_true q16) | (go_at_call 61; (with_reducible refine (turndownref06_output.calls k a5 (wrap64 ((wrap64 (2 * a2)) + a3)) t293 _ A17.out).mono ?_); rintro e w' ⟨rfl, ⟨nd, rfl⟩⟩; (try first | exact ⟨rfl, _, World.drewN_drewN _ _ _⟩ | exact ⟨rfl, _, Eq.trans (World.drewN_drewN _ _ _) (congrArg (World.drewN _) (Nat.add_assoc _ _ _))⟩))); try go_wp2_with (first | (go_at_call 61; (with_reducible refine (turndownref06_output.calls k a4 (wrap64 ((wrap64 (2 * a2)) + a3)) t292 _ A11.out).mono ?_); rintro e w' ⟨rfl, ⟨nd, rfl⟩⟩; (try first | exact ⟨rfl, _, World.drewN_drewN _ _ _⟩ | exact ⟨rfl, _, Eq.trans (World.drewN_drewN _ _ _) (congrArg (World.drewN _) (Nat.add_assoc _ _ _))⟩); have p16 : 0 ≤ ((ji13) : Int) := of_decide_eq_true (by first | (with_reducible assumption) | assumption); have q16 : (ji13) < (a0.size : Int) := of_decide_eq_true (by first | (with_reducible assumption) | assumption); have hx16 := bt_at a0 (ji13); replace p16 := eq_true p16; replace q16 := eq_true q16) | (go_at_call 61; (with_reducible refine (turndownref06_output.calls k a5 (wrap64 ((wrap64 (2 * a2)) + a3)) t293 _ A17.out).mono ?_); rintro e w' ⟨rfl, ⟨nd, rfl⟩⟩; (try first | exact ⟨rfl, _, World.drewN_drewN _ _ _⟩ | exact ⟨rfl, _, Eq.trans (World.drewN_drewN _ _ _) (congrArg (World.drewN _) (Nat.add_assoc _ _ _))⟩))))
       go_ret
       exact ⟨by first | rfl | (simp; done) | (simp only [← hji7, ← hji13] <;> (first | rfl | simp)) | (simp [*]; done), by repeat (first | exact Drawn0.refl _ | apply Drawn0.step)⟩
     ·
      rw [if_neg c15] at H
      exact absurd H (by simp)
    ·
     rw [if_neg c14] at H
     exact absurd H (by simp)
   ·
    rw [if_neg c12] at H
    have c12b0 : ((bt a0 (ji7)) == t292) = false := beq_eq_false_iff_ne.mpr c12
    have c12b1 : ((bt a0 (ji7)) != t292) = true := bne_iff_ne.mpr c12
    obtain ⟨ji19, hji19⟩ : ∃ j_ : Int, (wrap64 ((ji7) + 1)) = j_ := ⟨_, rfl⟩
    replace H : (if 0 ≤ (ji19) then (if (ji19) < (a0.size : Int) then ((turndownref06_output.f k a5 (wrap64 ((wrap64 (2 * a2)) + a3))).bind fun t294 => (if (bt a0 (ji19)) = t294 then (some (0 + 1)) else (some ((0 + 1) + 1)))) else (none)) else (none)) = some r := by first | (rw [hji19] at H; exact H) | (simp only [hji19] at H ⊢; exact H)
    (try rw [hji19] at A11)
    have hji19w : (IntKind.i64.wrap ((ji7) + 1)) = ji19 := (i64_w _).trans hji19
    by_cases c20 : 0 ≤ (ji19)
    ·
     rw [if_pos c20] at H
     have c20b0 : decide (0 ≤ (ji19)) = true := decide_eq_true c20
     clear c20
     by_cases c21 : (ji19) < (a0.size : Int)
     ·
      rw [if_pos c21] at H
      have c21b0 : decide ((ji19) < (a0.size : Int)) = true := decide_eq_true c21
      clear c21
      replace H := Option.bind_eq_some_iff.mp H
      obtain ⟨t294, A230, H⟩ := H
      replace H : (if (bt a0 (ji19)) = t294 then (some (0 + 1)) else (some ((0 + 1) + 1))) = some r := H
      have A23 := Aside0.mk A230
      clear A230
      by_cases c24 : (bt a0 (ji19)) = t294
      ·
       rw [if_pos c24] at H
       have c24b0 : ((bt a0 (ji19)) == t294) = true := beq_iff_eq.mpr c24
       have c24b1 : ((bt a0 (ji19)) != t294) = false := bne_eq_false_iff_eq.mpr c24
       clear c24
       obtain rfl := Option.some.inj H
       have p10 : 0 ≤ ((ji7) : Int) := of_decide_eq_true (by first | (with_reducible assumption) | assumption)
       have q10 : (ji7) < (a0.size : Int) := of_decide_eq_true (by first | (with_reducible assumption) | assumption)
       have hx10 := bt_at a0 (ji7)
       replace p10 := eq_true p10
       replace q10 := eq_true q10
       go_enter Try.func63, Try.ntmps63
       go_wp2_with (first | (go_at_call 61; (with_reducible refine (turndownref06_output.calls k a4 (wrap64 ((wrap64 (2 * a2)) + a3)) t292 _ A11.out).mono ?_); rintro e w' ⟨rfl, ⟨nd, rfl⟩⟩; (try first | exact ⟨rfl, _, World.drewN_drewN _ _ _⟩ | exact ⟨rfl, _, Eq.trans (World.drewN_drewN _ _ _) (congrArg (World.drewN _) (Nat.add_assoc _ _ _))⟩); have p22 : 0 ≤ ((ji19) : Int) := of_decide_eq_true (by first | (with_reducible assumption) | assumption); have q22 : (ji19) < (a0.size : Int) := of_decide_eq_true (by first | (with_reducible assumption) | assumption); have hx22 := bt_at a0 (ji19); replace p22 := eq_true p22; replace q22 := eq_true q22) | (go_at_call 61; (with_reducible refine (turndownref06_output.calls k a5 (wrap64 ((wrap64 (2 * a2)) + a3)) t294 _ A23.out).mono ?_); rintro e w' ⟨rfl, ⟨nd, rfl⟩⟩; (try first | exact ⟨rfl, _, World.drewN_drewN _ _ _⟩ | exact ⟨rfl, _, Eq.trans (World.drewN_drewN _ _ _) (congrArg (World.drewN _) (Nat.add_assoc _ _ _))⟩)))
       repeat (go_quiet (first | (go_at_call 61; (with_reducible refine (turndownref06_output.calls k a4 (wrap64 ((wrap64 (2 * a2)) + a3)) t292 _ A11.out).mono ?_); rintro e w' ⟨rfl, ⟨nd, rfl⟩⟩; (try first | exact ⟨rfl, _, World.drewN_drewN _ _ _⟩ | exact ⟨rfl, _, Eq.trans (World.drewN_drewN _ _ _) (congrArg (World.drewN _) (Nat.add_assoc _ _ _))⟩); have p22 : 0 ≤ ((ji19) : Int) := of_decide_eq_true (by first | (with_reducible assumption) | assumption); have q22 : (ji19) < (a0.size : Int) := of_decide_eq_true (by first | (with_reducible assumption) | assumption); have hx22 := bt_at a0 (ji19); replace p22 := eq_true p22; replace q22 := eq_true q22) | (go_at_call 61; (with_reducible refine (turndownref06_output.calls k a5 (wrap64 ((wrap64 (2 * a2)) + a3)) t294 _ A23.out).mono ?_); rintro e w' ⟨rfl, ⟨nd, rfl⟩⟩; (try first | exact ⟨rfl, _, World.drewN_drewN _ _ _⟩ | exact ⟨rfl, _, Eq.trans (World.drewN_drewN _ _ _) (congrArg (World.drewN _) (Nat.add_assoc _ _ _))⟩))); try go_wp2_with (first | (go_at_call 61; (with_reducible refine (turndownref06_output.calls k a4 (wrap64 ((wrap64 (2 * a2)) + a3)) t292 _ A11.out).mono ?_); rintro e w' ⟨rfl, ⟨nd, rfl⟩⟩; (try first | exact ⟨rfl, _, World.drewN_drewN _ _ _⟩ | exact ⟨rfl, _, Eq.trans (World.drewN_drewN _ _ _) (congrArg (World.drewN _) (Nat.add_assoc _ _ _))⟩); have p22 : 0 ≤ ((ji19) : Int) := of_decide_eq_true (by first | (with_reducible assumption) | assumption); have q22 : (ji19) < (a0.size : Int) := of_decide_eq_true (by first | (with_reducible assumption) | assumption); have hx22 := bt_at a0 (ji19); replace p22 := eq_true p22; replace q22 := eq_true q22) | (go_at_call 61; (with_reducible refine (turndownref06_output.calls k a5 (wrap64 ((wrap64 (2 * a2)) + a3)) t294 _ A23.out).mono ?_); rintro e w' ⟨rfl, ⟨nd, rfl⟩⟩; (try first | exact ⟨rfl, _, World.drewN_drewN _ _ _⟩ | exact ⟨rfl, _, Eq.trans (World.drewN_drewN _ _ _) (congrArg (World.drewN _) (Nat.add_assoc _ _ _))⟩))))
       go_ret
       exact ⟨by first | rfl | (simp; done) | (simp only [← hji7, ← hji19] <;> (first | rfl | simp)) | (simp [*]; done), by repeat (first | exact Drawn0.refl _ | apply Drawn0.step)⟩
      ·
       rw [if_neg c24] at H
       have c24b0 : ((bt a0 (ji19)) == t294) = false := beq_eq_false_iff_ne.mpr c24
       have c24b1 : ((bt a0 (ji19)) != t294) = true := bne_iff_ne.mpr c24
       obtain rfl := Option.some.inj H
       have p10 : 0 ≤ ((ji7) : Int) := of_decide_eq_true (by first | (with_reducible assumption) | assumption)
       have q10 : (ji7) < (a0.size : Int) := of_decide_eq_true (by first | (with_reducible assumption) | assumption)
       have hx10 := bt_at a0 (ji7)
       replace p10 := eq_true p10
       replace q10 := eq_true q10
       go_enter Try.func63, Try.ntmps63
       go_wp2_with (first | (go_at_call 61; (with_reducible refine (turndownref06_output.calls k a4 (wrap64 ((wrap64 (2 * a2)) + a3)) t292 _ A11.out).mono ?_); rintro e w' ⟨rfl, ⟨nd, rfl⟩⟩; (try first | exact ⟨rfl, _, World.drewN_drewN _ _ _⟩ | exact ⟨rfl, _, Eq.trans (World.drewN_drewN _ _ _) (congrArg (World.drewN _) (Nat.add_assoc _ _ _))⟩); have p22 : 0 ≤ ((ji19) : Int) := of_decide_eq_true (by first | (with_reducible assumption) | assumption); have q22 : (ji19) < (a0.size : Int) := of_decide_eq_true (by first | (with_reducible assumption) | assumption); have hx22 := bt_at a0 (ji19); replace p22 := eq_true p22; replace q22 := eq_true q22) | (go_at_call 61; (with_reducible refine (turndownref06_output.calls k a5 (wrap64 ((wrap64 (2 * a2)) + a3)) t294 _ A23.out).mono ?_); rintro e w' ⟨rfl, ⟨nd, rfl⟩⟩; (try first | exact ⟨rfl, _, World.drewN_drewN _ _ _⟩ | exact ⟨rfl, _, Eq.trans (World.drewN_drewN _ _ _) (congrArg (World.drewN _) (Nat.add_assoc _ _ _))⟩)))
       repeat (go_quiet (first | (go_at_call 61; (with_reducible refine (turndownref06_output.calls k a4 (wrap64 ((wrap64 (2 * a2)) + a3)) t292 _ A11.out).mono ?_); rintro e w' ⟨rfl, ⟨nd, rfl⟩⟩; (try first | exact ⟨rfl, _, World.drewN_drewN _ _ _⟩ | exact ⟨rfl, _, Eq.trans (World.drewN_drewN _ _ _) (congrArg (World.drewN _) (Nat.add_assoc _ _ _))⟩); have p22 : 0 ≤ ((ji19) : Int) := of_decide_eq_true (by first | (with_reducible assumption) | assumption); have q22 : (ji19) < (a0.size : Int) := of_decide_eq_true (by first | (with_reducible assumption) | assumption); have hx22 := bt_at a0 (ji19); replace p22 := eq_true p22; replace q22 := eq_true q22) | (go_at_call 61; (with_reducible refine (turndownref06_output.calls k a5 (wrap64 ((wrap64 (2 * a2)) + a3)) t294 _ A23.out).mono ?_); rintro e w' ⟨rfl, ⟨nd, rfl⟩⟩; (try first | exact ⟨rfl, _, World.drewN_drewN _ _ _⟩ | exact ⟨rfl, _, Eq.trans (World.drewN_drewN _ _ _) (congrArg (World.drewN _) (Nat.add_assoc _ _ _))⟩))); try go_wp2_with (first | (go_at_call 61; (with_reducible refine (turndownref06_output.calls k a4 (wrap64 ((wrap64 (2 * a2)) + a3)) t292 _ A11.out).mono ?_); rintro e w' ⟨rfl, ⟨nd, rfl⟩⟩; (try first | exact ⟨rfl, _, World.drewN_drewN _ _ _⟩ | exact ⟨rfl, _, Eq.trans (World.drewN_drewN _ _ _) (congrArg (World.drewN _) (Nat.add_assoc _ _ _))⟩); have p22 : 0 ≤ ((ji19) : Int) := of_decide_eq_true (by first | (with_reducible assumption) | assumption); have q22 : (ji19) < (a0.size : Int) := of_decide_eq_true (by first | (with_reducible assumption) | assumption); have hx22 := bt_at a0 (ji19); replace p22 := eq_true p22; replace q22 := eq_true q22) | (go_at_call 61; (with_reducible refine (turndownref06_output.calls k a5 (wrap64 ((wrap64 (2 * a2)) + a3)) t294 _ A23.out).mono ?_); rintro e w' ⟨rfl, ⟨nd, rfl⟩⟩; (try first | exact ⟨rfl, _, World.drewN_drewN _ _ _⟩ | exact ⟨rfl, _, Eq.trans (World.drewN_drewN _ _ _) (congrArg (World.drewN _) (Nat.add_assoc _ _ _))⟩))))
       go_ret
       exact ⟨by first | rfl | (simp; done) | (simp only [← hji7, ← hji19] <;> (first | rfl | simp)) | (simp [*]; done), by repeat (first | exact Drawn0.refl _ | apply Drawn0.step)⟩
     ·
      rw [if_neg c21] at H
      exact absurd H (by simp)
    ·
     rw [if_neg c20] at H
     exact absurd H (by simp)
  ·
   rw [if_neg c9] at H
   exact absurd H (by simp)
 ·
  rw [if_neg c8] at H
  exact absurd H (by simp)
end Go.Proofs.Ytcpojohpmcnnhaa.PA

set_option linter.unusedVariables false
set_option linter.unusedSimpArgs false
namespace Go.Proofs.Ytcpojohpmcnnhaa.L
open Go.RowKit Go.Proofs.YtcpojohpmcnnhaaW.PrintWords Go.Proofs.YtcpojohpmcnnhaaW.PrintLast Go.Proofs.YtcpojohpmcnnhaaW.PrintMore
open Go.Proofs.Ytcpojohpmcnnhaa.PA Go.Proofs.Ytcpojohpmcnnhaa.A
def RowsR (w : World) (b n : Nat) (L : Nat → Nat → Int) : Prop := ∃ C, w.heap[b]? = some (.cells C 81 (0, 0)) ∧ ∀ i j, i < n → j < 8 → C[i * 8 + j]? = some (.int .i64 (L i j))
theorem RowsR.cell {w : World} {b n : Nat} {L : Nat → Nat → Int} (h : RowsR w b n L) {i j : Nat} (hi : i < n) (hj : j < 8) : w.cell? ⟨b, i * 8 + j, none⟩ = some (.int .i64 (L i j)) := by
  obtain ⟨C, h1, h2⟩ := h
  unfold World.cell?
  simp only
  rw [h1]
  exact h2 i j hi hj
theorem RowsR.frozen {w : World} {b n : Nat} {L : Nat → Nat → Int} (h : RowsR w b n L) (k : Nat) : w.frozen? ⟨b, k, none⟩ = false := by
  obtain ⟨C, h1, _⟩ := h
  exact Lib.frozen_of_heap h1 k
theorem RowsR.size {w : World} {b n : Nat} {L : Nat → Nat → Int} (h : RowsR w b n L) : b < w.heap.size := by
  obtain ⟨C, h1, _⟩ := h
  exact (Array.getElem?_eq_some_iff.1 h1).1
theorem RowsR.set {w : World} {b n : Nat} {L : Nat → Nat → Int} (h : RowsR w b n L) {i j : Nat} (hi : i < n) (hj : j < 8) (v : Int) : RowsR (w.setCell ⟨b, i * 8 + j, none⟩ (.int .i64 v)) b n (fun a c => if a = i ∧ c = j then v else L a c) := by
  obtain ⟨C, h1, h2⟩ := h
  refine ⟨C.setIfInBounds (i * 8 + j) (.int .i64 v), by simp [World.setCell, Array.getElem?_modify, h1], fun a c ha hc => ?_⟩
  have hs : i * 8 + j < C.size := by
    have := h2 i j hi hj
    exact (Array.getElem?_eq_some_iff.1 this).1
  rw [Array.getElem?_setIfInBounds]
  by_cases e : a = i ∧ c = j
  · obtain ⟨rfl, rfl⟩ := e
    rw [if_pos rfl, if_pos hs]
    simp
  · rw [if_neg (by omega)]
    simp only [if_neg e]
    exact h2 a c ha hc
theorem RowsR.congr {w : World} {b n : Nat} {L M : Nat → Nat → Int} (h : RowsR w b n L) (he : ∀ i j, i < n → j < 8 → L i j = M i j) : RowsR w b n M := by
  obtain ⟨C, h1, h2⟩ := h
  exact ⟨C, h1, fun i j hi hj => by rw [h2 i j hi hj, he i j hi hj]⟩
theorem RowsR.move {w w' : World} {b n : Nat} {L : Nat → Nat → Int} (h : RowsR w b n L) (he : w'.heap[b]? = w.heap[b]?) : RowsR w' b n L := by
  obtain ⟨C, h1, h2⟩ := h
  exact ⟨C, he.trans h1, h2⟩
theorem RowsR.of_own {w : World} {base n : Nat} {v : Value} (h : w.ownsRow base 81 8 v n (List.replicate (n * 8) (.int .i64 0))) (hn : 0 < n) : ∃ g cap, v = .slice (some ⟨g, 0, none⟩) n cap ∧ base ≤ g ∧ RowsR w g n (fun _ _ => 0) := by
  rcases h.2 with ⟨_, rfl⟩ | ⟨g, cap, cur, rfl, hbg, hg, hnc, hcm, hcs, htake⟩
  · exact absurd hn (Nat.lt_irrefl 0)
  · refine ⟨g, cap, rfl, hbg, cur, hg, fun i j hi hj => ?_⟩
    have hlt : i * 8 + j < n * 8 := by omega
    have h1 : (cur.toList.take (n * 8))[i * 8 + j]? = some (.int .i64 0) := by
      rw [htake, List.getElem?_replicate, if_pos hlt]
    rw [List.getElem?_take_of_lt hlt, Array.getElem?_toList] at h1
    exact h1
theorem step_f {g h t b i : Nat} {s : ByteArray} (hg : g < 16) (hh : h < 16) (ht : t < 8) (hb : b < 2) (hi : 2 * i + 1 < s.size) (hs : s.size ≤ 1000000) :
    turndownref06_step.f 10 s (i : Int) (t : Int) (b : Int) (g : Int) (h : Int) = some (stepI g h s (2 * i) (2 * t + b)) := by
  unfold turndownref06_step.f
  have e : wrap64 (wrap64 (2 * (t : Int)) + (b : Int)) = ((2 * t + b : Nat) : Int) := by
    rw [A.wsm (x := 2 * (t : Int)) (by omega), A.wsm (by omega)]; omega
  have e1 : wrap64 (2 * (i : Int)) = ((2 * i : Nat) : Int) := by rw [A.wsm (by omega)]; omega
  have e2 : wrap64 (((2 * i : Nat) : Int) + 1) = ((2 * i : Nat) : Int) + 1 := A.wsm (by omega)
  rw [e, e1, e2]
  have h1 := output_tab ⟨g, hg⟩ ⟨2 * t + b, by omega⟩
  have h2 := output_tab ⟨h, hh⟩ ⟨2 * t + b, by omega⟩
  simp only at h1 h2
  rw [h1, h2]
  simp only [Option.bind_some]
  rw [if_pos (by omega), if_pos (by omega)]
  unfold stepI differI neI
  by_cases c1 : bt s ((2 * i : Nat) : Int) = 48 + ((parN g (2 * t + b) : Nat) : Int) <;> by_cases c2 : bt s (((2 * i : Nat) : Int) + 1) = 48 + ((parN h (2 * t + b) : Nat) : Int)
  all_goals
    try simp only [c1, c2, if_true, if_false]
    try simp (config := { decide := true }) only [show (0 : Int) ≤ ((2 * i : Nat) : Int) + 1 by omega, show ((2 * i : Nat) : Int) + 1 < (s.size : Int) by omega, if_true]
    try rfl
theorem step_c {g h t b i : Nat} {s : ByteArray} (hg : g < 16) (hh : h < 16) (ht : t < 8) (hb : b < 2) (hi : 2 * i + 1 < s.size) (hs : s.size ≤ 1000000) (w : World) :
    Calls Try.prog 63 #[.string s, .int .i64 (i : Int), .int .i64 (t : Int), .int .i64 (b : Int), .int .i64 (g : Int), .int .i64 (h : Int)] w fun e w' => e = .returned (.int .i64 (stepI g h s (2 * i) (2 * t + b))) ∧ Below w.heap.size w w' :=
  (turndownref06_step.calls 10 _ _ _ _ _ _ _ w (step_f hg hh ht hb hi hs)).mono (by rintro e w' ⟨rfl, nd, rfl⟩; exact ⟨rfl, pw_below_drewN (Below.refl _ _) nd⟩)
theorem VR_base (g h : Nat) (s : ByteArray) {m t : Nat} (hm : m ≤ 900) (ht : t < 8) : VR g h s (m + 3) m t = stepI g h s (2 * m) (2 * t) + stepI g h s (2 * (m + 1)) (2 * (2 * t % 8)) + stepI g h s (2 * (m + 2)) (2 * (2 * (2 * t % 8) % 8)) := by
  have h1 := VR_last g h s (n := m + 3) (i := m) (by omega) (by omega) ht (by omega)
  have h2 := VR_last g h s (n := m + 3) (i := m + 1) (t := 2 * t % 8) (by omega) (by omega) (by omega) (by omega)
  have h3 := VR_last g h s (n := m + 3) (i := m + 2) (t := 2 * (2 * t % 8) % 8) (by omega) (by omega) (by omega) (by omega)
  simp only [show m + 1 + 1 = m + 2 from rfl] at h2
  simp only [show m + 2 + 1 = m + 3 from rfl, VR_end] at h3
  omega
theorem bytes_app (a b : List UInt8) : (⟨a.toArray⟩ : ByteArray) ++ ⟨b.toArray⟩ = ⟨(a ++ b).toArray⟩ := by
  apply ByteArray.ext
  simp [ByteArray.append, ByteArray.data_append]
def tabR (g h : Nat) (s : ByteArray) (N d t i j : Nat) : Int := if d ≤ i ∨ (i + 1 = d ∧ j < t) then VR g h s N i j else 0
theorem info81 : (Try.prog.info? 81).map (fun i => (i.zero, i.size, i.bytes)) = some (some (.agg #[.int .i64 0, .int .i64 0, .int .i64 0, .int .i64 0, .int .i64 0, .int .i64 0, .int .i64 0, .int .i64 0]), 8, 64) := by kernel_rfl
theorem own_ge {w : World} {base e size n : Nat} {v : Value} {xs : List Value} (h : w.ownsRow base e size v n xs) : ∀ k, v.ownBlock = some k → base ≤ k := by
  intro k hk
  rcases h.2 with ⟨rfl, _⟩ | ⟨g, cap, cur, rfl, hbg, _⟩
  · simp [Value.ownBlock] at hk
  · simp [Value.ownBlock] at hk
    omega
theorem msgR_next (g h : Nat) (s : ByteArray) (n i : Nat) : msgR g h s n (i + 1) = msgR g h s n i ++ [UInt8.ofNat (48 + bitR g h s n i (stR g h s n i))] := rfl
theorem stR_next (g h : Nat) (s : ByteArray) (n i : Nat) : stR g h s n (i + 1) = (2 * stR g h s n i + bitR g h s n i (stR g h s n i)) % 8 := rfl
theorem stR_lt (g h : Nat) (s : ByteArray) (n : Nat) : ∀ i, stR g h s n i < 8
  | 0 => by show 0 < 8; omega
  | i + 1 => by rw [stR_next]; omega
set_option maxHeartbeats 8000000 in
set_option maxRecDepth 100000 in
theorem refRead_c (g h : Nat) (s : ByteArray) (m : Nat) (w : World) (hg : g < 16) (hh : h < 16) (hm : m ≤ 900) (hs : s.size = 2 * (m + 3)) :
    Calls Try.prog 35 #[.string s, .int .i64 (g : Int), .int .i64 (h : Int)] w fun e w' => e = .returned (.tuple #[.string ⟨(msgR g h s (m + 3) m).toArray⟩, .int .i64 (VR g h s (m + 3) 0 0)]) ∧ Below w.heap.size w w' := by
  have hq2 : ((s.size : Nat) : Int) / 2 = (m : Int) + 3 := by rw [hs]; omega
  obtain ⟨B, hB⟩ : ∃ B, w.heap.size = B := ⟨_, rfl⟩
  rw [hB]
  obtain ⟨i0, hi0, hz0, hz1, hz2⟩ := info_parts info81
  have HSC : Hid (∀ (i t b : Nat), i ≤ m + 2 → t < 8 → b < 2 → ∀ W : World, Calls Try.prog 63 #[.string s, .int .i64 (i : Int), .int .i64 (t : Int), .int .i64 (b : Int), .int .i64 (g : Int), .int .i64 (h : Int)] W fun e w' => e = .returned (.int .i64 (stepI g h s (2 * i) (2 * t + b))) ∧ Below W.heap.size W w') :=
    Lib.hid (fun i t b hi ht hb W => step_c hg hh ht hb (by omega) (by omega) W)
  have HS := Lib.hid hs
  have HB := Lib.hid hB
  clear hs hB
  go_enter Try.func35, Try.ntmps35
  go_wp2_with fail
  clear hq2
  go_loopw [9, 10] (fun v9 v10 wr => ∃ (q : Nat), v10 = .int .i64 (q : Int) ∧ q ≤ m + 1 ∧ Hid (wr.ownsRow B 81 8 v9 q (List.replicate (q * 8) (.int .i64 0))) ∧ Hid (Below B w wr)) (fun _ v10 _ => m + 1 - (intOf v10).toNat)
  case atStart => exact ⟨0, rfl, Nat.zero_le _, Lib.hid (World.ownsRow_nil w B 81 8), Lib.hid (Below.refl _ _)⟩
  case round =>
    rename World => wr
    obtain ⟨q, rfl, hq, HO, HBw⟩ := hrel
    by_cases hlt : q ≤ m
    · have hlt' : (q : Int) ≤ (m : Int) := by omega
      have HO2 := Lib.hid (fun (o : Obj) => own_below HO.out ((Below.refl _ _).alloc (Nat.le_refl _) o))
      have HGE := Lib.hid (own_ge HO.out)
      go_wp2_with (at_builtin; (refine wpList_append_own_at _ (by rfl) _ _ 80 (by rfl) B 81 i0 (.agg #[.int .i64 0, .int .i64 0, .int .i64 0, .int .i64 0, .int .i64 0, .int .i64 0, .int .i64 0, .int .i64 0]) 8 64 Try.underlying80 hi0 hz0 hz1 hz2 rfl (by decide) _ _ _ (by rfl) (HO2.out _) ⟨wr.heap.size, 0, none⟩ 1 1 (List.replicate 8 (.int .i64 0)) (by rfl) rfl ?c1 ?c2 ?c3 ?c4 ?c5 ?_))
      case c1 =>
        intro j u hj
        have hj8 : j < 8 := by have := (List.getElem?_eq_some_iff.1 hj).1; simpa using this
        rw [List.getElem?_replicate, if_pos hj8] at hj
        rw [add_plain, ← hj]
        have := arr_cell (xs := fillR 0) (T := 81) (heap_alloc_new wr (.cells (arr8 (fillR 0)) 81)) hj8
        refine Eq.trans this ?_
        match j, hj8 with
        | 0, _ | 1, _ | 2, _ | 3, _ | 4, _ | 5, _ | 6, _ | 7, _ => rfl
        | j + 8, h => omega
      case c2 =>
        intro u hu
        rw [(List.mem_replicate.1 hu).2]; rfl
      case c3 => unfold maxLen; omega
      case c4 => omega
      case c5 =>
        have := HBw.out.size
        have := HB.out
        simp
        omega
      intro v' w2 hown' hgrow _ _
      have hB2 : Below B w w2 := by
        have h1 := HBw.out.size
        have h2 := HB.out
        refine Below.grown (HBw.out.alloc (by omega) _) hgrow (by simp; omega) (fun k hk => HGE.out k hk)
      have hrep : List.replicate (q * 8) (Value.int .i64 0) ++ List.replicate 8 (.int .i64 0) = List.replicate ((q + 1) * 8) (.int .i64 0) := by
        rw [List.replicate_append_replicate]; congr 1; omega
      have hown2 : w2.ownsRow B 81 8 v' (q + 1) (List.replicate ((q + 1) * 8) (.int .i64 0)) := by rw [← hrep]; exact hown'
      have HOW := Lib.hid hown2
      have HB2 := Lib.hid hB2
      clear hown' hown2 hB2 hgrow hrep
      go_wp2_with fail
      refine ⟨⟨q + 1, by go_num, by omega, HOW, HB2⟩, by simp [intOf]; omega⟩
    · obtain rfl : q = m + 1 := by omega
      obtain ⟨gb, cap, rfl, hgb, hrows⟩ := RowsR.of_own HO.out (by omega)
      have hcast : ((m + 1 : Nat) : Int) = (m : Int) + 1 := by omega
      rw [hcast]
      have hgs := hrows.size
      have HR0 : Hid (RowsR wr gb (m + 1) (tabR g h s (m + 3) (m + 1) 0)) := Lib.hid (hrows.congr (fun i j hi hj => by unfold tabR; rw [if_neg (by omega)]))
      clear hrows HO hcast hlt hq
      go_wp2_with fail
      generalize wr = w3 at HR0 HBw hgs ⊢
      go_loopw [11, 13, 14, 16, 17] (fun v11 _ _ _ _ wo => ∃ d : Nat, v11 = .int .i64 ((d : Int) - 1) ∧ d ≤ m + 1 ∧ Hid (RowsR wo gb (m + 1) (tabR g h s (m + 3) d 0)) ∧ Hid (R.Keeps [gb] w3 wo)) (fun v11 _ _ _ _ _ => (intOf v11 + 1).toNat)
      case atStart => exact ⟨m + 1, by congr 1; omega, Nat.le_refl _, HR0, Lib.hid (R.Keeps.refl _ _)⟩
      case round =>
        rename World => wo
        obtain ⟨d, rfl, hd, HR, HK⟩ := hrel
        rcases d with _ | p
        · have hv : ((0 : Nat) : Int) - 1 = -1 := by omega
          rw [hv]
          clear hv
          have HRf : Hid (∀ W, R.Keeps [] wo W → ∀ i j, i ≤ m → j < 8 → W.cell? ⟨gb, i * 8 + j, none⟩ = some (.int .i64 (VR g h s (m + 3) i j))) := Lib.hid (fun W hW i j hi hj => by
            have := HR.out.cell (i := i) (j := j) (by omega) hj
            unfold tabR at this
            rw [if_pos (by omega)] at this
            exact hW.cell this (by simp))
          have HFB : Hid (Below B w wo) := Lib.hid (HBw.out.trans (HK.out.to_below (B := B) (by have := HBw.out.size; have := HB.out; omega) (fun k hk => by simp at hk; omega)))
          clear HR HK HBw HR0
          go_wp2_with fail
          go_loopw [18, 19, 20] (fun v18 v19 v20 wd => ∃ i : Nat, v20 = .int .i64 (i : Int) ∧ v19 = .int .i64 (stR g h s (m + 3) i : Int) ∧ v18 = .string ⟨(msgR g h s (m + 3) i).toArray⟩ ∧ i ≤ m ∧ Hid (R.Keeps [] wo wd)) (fun _ _ v20 _ => m - (intOf v20).toNat)
          case atStart => exact ⟨0, rfl, rfl, rfl, Nat.zero_le _, Lib.hid (R.Keeps.refl _ _)⟩
          case round =>
            rename World => wd
            obtain ⟨i, rfl, rfl, rfl, hi, HKd⟩ := hrel
            by_cases him : i < m
            · have him' : (i : Int) < (m : Int) := by omega
              have ht8 := stR_lt g h s (m + 3) i
              have hnm := msgR_next g h s (m + 3) i
              have hns := stR_next g h s (m + 3) i
              have hb01 := bitR_01 g h s (m + 3) i (stR g h s (m + 3) i)
              have hbd : bitR g h s (m + 3) i (stR g h s (m + 3) i) = if stepI g h s (2 * i) (2 * stR g h s (m + 3) i) + VR g h s (m + 3) (i + 1) (2 * stR g h s (m + 3) i % 8) > VR g h s (m + 3) i (stR g h s (m + 3) i) then 1 else 0 := rfl
              have hfr := VR_free g h s (n := m + 3) (i := i) (t := stR g h s (m + 3) i) (by omega) (by omega) ht8 (by omega)
              have hml := msgR_len g h s (m + 3) i
              have hvb := VR_bd g h s (n := m + 3) (by omega) (m + 3 - (i + 1)) (i + 1) (2 * stR g h s (m + 3) i % 8) (by omega) (by omega)
              have hsb := step_bd g h s (2 * i) (2 * stR g h s (m + 3) i)
              obtain ⟨t, ht⟩ : ∃ t, stR g h s (m + 3) i = t := ⟨_, rfl⟩
              rw [ht] at hnm hns hb01 hbd hfr hvb hsb ht8 ⊢
              obtain ⟨u, hu⟩ : ∃ u, 2 * t % 8 = u := ⟨_, rfl⟩
              rw [hu] at hbd hfr hvb
              have HC := Lib.hid (fun W => HSC.out i t 0 (by omega) ht8 (by omega) W)
              rw [show 2 * t + 0 = 2 * t by omega] at HC
              have yx : Hid (∀ W, R.Keeps [] wd W → W.cell? ⟨gb, (i + 1) * 8 + u, none⟩ = some (.int .i64 (VR g h s (m + 3) (i + 1) u)) ∧ W.cell? ⟨gb, i * 8 + t, none⟩ = some (.int .i64 (VR g h s (m + 3) i t))) :=
                Lib.hid (fun W hW => ⟨HRf.out W (HKd.out.trans hW (fun k hk => by simp at hk)) (i + 1) u (by omega) (by omega), HRf.out W (HKd.out.trans hW (fun k hk => by simp at hk)) i t (by omega) ht8⟩)
              obtain ⟨d1, hd1⟩ : ∃ d1, stepI g h s (2 * i) (2 * t) = d1 := ⟨_, rfl⟩
              obtain ⟨y1, hy1⟩ : ∃ y1, VR g h s (m + 3) (i + 1) u = y1 := ⟨_, rfl⟩
              obtain ⟨r1, hr1⟩ : ∃ r1, VR g h s (m + 3) i t = r1 := ⟨_, rfl⟩
              rw [hd1] at HC hbd hfr hsb
              rw [hy1] at yx hbd hfr hvb
              rw [hr1] at yx hbd hfr
              have hr_le : r1 ≤ d1 + y1 := by omega
              obtain ⟨o, ho⟩ : ∃ o : ByteArray, ⟨(msgR g h s (m + 3) i).toArray⟩ = o := ⟨_, rfl⟩
              have hoz : o.size = i := by rw [← ho, list_size]; exact hml
              have hnext : ∀ ch : UInt8, UInt8.ofNat (48 + bitR g h s (m + 3) i t) = ch → (⟨(msgR g h s (m + 3) (i + 1)).toArray⟩ : ByteArray) = o ++ ⟨#[ch]⟩ := fun ch hch => by
                rw [hnm, hch, ← ho, show (⟨#[ch]⟩ : ByteArray) = ⟨[ch].toArray⟩ from rfl, bytes_app]
              rw [ho]
              have hw1 : IntKind.i64.wrap ((i : Int) + 1) = (i : Int) + 1 := IntWalk.i64_in _ (by omega)
              have hw3 : IntKind.i64.wrap (d1 + y1) = d1 + y1 := IntWalk.i64_in _ (by omega)
              have hw4 : IntKind.i64.wrap (2 * (t : Int)) = 2 * (t : Int) := IntWalk.i64_in _ (by omega)
              have hmod : (2 * (t : Int)).tmod 8 = (u : Int) := by rw [Int.tmod_eq_emod_of_nonneg (by omega)]; omega
              have HMU : Hid (2 * (t : Int) % 8 = (u : Int)) := Lib.hid (by omega)
              have HW := Lib.hid (And.intro hw1 (And.intro hw3 (And.intro hw4 hmod)))
              have HNS := Lib.hid hns
              have HNX := Lib.hid hnext
              have HBD := Lib.hid hbd
              have hi0 : (0 : Int) ≤ (i : Int) + 1 := by omega
              have hi1 : (i : Int) + 1 < (m : Int) + 1 := by omega
              have hi2 : (i : Int) < (m : Int) + 1 := by omega
              have hu0 : (0 : Int) ≤ (u : Int) := by omega
              have hu8' : (u : Int) < 8 := by omega
              have ht0 : (0 : Int) ≤ (t : Int) := by omega
              have ht8' : (t : Int) < 8 := by omega
              clear hw1 hw3 hw4 hmod hns hnext hbd hnm hb01 hfr hml hd1 hy1 hr1 ho ht
              by_cases heq : d1 + y1 = r1
              · subst heq
                have hbe : ((d1 + y1) == (d1 + y1)) = true := beq_self_eq_true _
                have hb0 : bitR g h s (m + 3) i t = 0 := by rw [HBD.out, if_neg (by omega)]
                have hnx := HNX.out 48 (by rw [hb0]; rfl)
                have hst : stR g h s (m + 3) (i + 1) = u := by rw [HNS.out, hb0, Nat.add_zero]; exact hu
                have HNN := Lib.hid hnx
                have HST := Lib.hid hst
                clear hb0 hnx hst HBD HNX HNS hu
                go_wp2_with fail
                apply R.wp_region_text [0, 1, 2, 3, 4, 6, 7, 8, 9, 10, 11, 12, 13, 14, 16, 17, 18, 19, 20, 21] [5, 15, 22] 23 (R.Keeps [] wd)
                case hm => kernel_rfl
                case hB => kernel_rfl
                case hd => rfl
                case hQ => exact fun _ _ _ _ _ h => h
                case hS => exact (R.Keeps.refl _ _).drew
                case hF =>
                  intro w' hS
                  obtain ⟨z1, z2⟩ := yx.out w' hS
                  obtain ⟨hw1, hw3, hw4, hmod⟩ := HW.out
                  clear hS
                  simp only [R.pickC, List.filterMap_cons, List.getElem?_toArray, List.getElem?_cons_zero, List.getElem?_cons_succ, List.filterMap_nil]
                  (with_reducible refine R.wpStill_plain rfl (fun K hK => ?_)); go_simp; with_reducible refine hK _ ?_; clear hK K
                  (with_reducible refine R.wpStill_plain rfl (fun K hK => ?_)); go_simp; with_reducible refine hK _ ?_; clear hK K
                  (with_reducible refine R.wpStill_plain rfl (fun K hK => ?_)); go_simp; with_reducible refine hK _ ?_; clear hK K
                  (with_reducible refine R.wpStill_plain rfl (fun K hK => ?_)); go_simp; with_reducible refine hK _ ?_; clear hK K
                  (with_reducible refine R.wpStill_plain rfl (fun K hK => ?_)); go_simp; with_reducible refine hK _ ?_; clear hK K
                  (with_reducible refine R.wpStill_plain rfl (fun K hK => ?_)); go_simp; with_reducible refine hK _ ?_; clear hK K
                  (with_reducible refine R.wpStill_plain rfl (fun K hK => ?_)); go_simp; with_reducible refine hK _ ?_; clear hK K
                  (with_reducible refine R.wpStill_plain rfl (fun K hK => ?_)); go_simp; with_reducible refine hK _ ?_; clear hK K
                  (with_reducible refine R.wpStill_plain rfl (fun K hK => ?_)); go_simp; with_reducible refine hK _ ?_; clear hK K
                  (with_reducible refine R.wpStill_plain rfl (fun K hK => ?_)); go_simp; with_reducible refine hK _ ?_; clear hK K
                  (with_reducible refine R.wpStill_plain rfl (fun K hK => ?_)); go_simp; with_reducible refine hK _ ?_; clear hK K
                  (with_reducible refine R.wpStill_plain rfl (fun K hK => ?_)); go_simp; with_reducible refine hK _ ?_; clear hK K
                  (with_reducible refine R.wpStill_plain rfl (fun K hK => ?_)); go_simp; with_reducible refine hK _ ?_; clear hK K
                  (with_reducible refine R.wpStill_plain rfl (fun K hK => ?_)); go_simp; with_reducible refine hK _ ?_; clear hK K
                  (with_reducible refine R.wpStill_plain rfl (fun K hK => ?_)); go_simp; with_reducible refine hK _ ?_; clear hK K
                  (with_reducible refine R.wpStill_plain rfl (fun K hK => ?_)); go_simp; with_reducible refine hK _ ?_; clear hK K
                  (with_reducible refine R.wpStill_plain rfl (fun K hK => ?_)); go_simp; with_reducible refine hK _ ?_; clear hK K
                  (with_reducible refine R.wpStill_plain rfl (fun K hK => ?_)); go_simp; with_reducible refine hK _ ?_; clear hK K
                  (with_reducible refine R.wpStill_plain rfl (fun K hK => ?_)); go_simp; with_reducible refine hK _ ?_; clear hK K
                  (with_reducible refine R.wpStill_plain rfl (fun K hK => ?_)); go_simp; with_reducible refine hK _ ?_; clear hK K
                  exact wpStill_nil rfl
                case hC =>
                  simp only [R.chainOf, List.getElem?_toArray, List.getElem?_cons_zero, List.getElem?_cons_succ, Nat.reduceBNe, Bool.and_true, Bool.and_false, Bool.false_and]
                  refine R.wpSeq_same (fun K hK => ?_)
                  go_simp
                  refine (HC.out _).mono ?_
                  rintro e w2 ⟨rfl, hB2⟩
                  have hK2 : R.Keeps [] wd w2 := ((R.Keeps.refl [] _).drew).trans (R.Keeps.of_below [] hB2) (fun k hk => by simp at hk)
                  refine hK _ _ hK2 ?_
                  clear hK K
                  have HK2 := Lib.hid hK2
                  have HKL_w2 := Lib.hid hK2
                  clear hB2 hK2
                  refine R.wpSeq_same (fun K hK => ?_)
                  have hw3 := HW.out.2.1
                  go_simp
                  with_reducible refine hK _ _ HK2.out ?_
                  clear hK K hw3
                  refine R.wpSeq_same (fun K hK => ?_)
                  go_simp
                  with_reducible refine hK _ _ HK2.out ?_
                  clear hK K
                  refine R.wpSeq_nil ?_
                  have hw4 := HW.out.2.2.1
                  try rw [hbe]
                  go_wp2_with fail
                  refine ⟨⟨i + 1, by go_num, by rw [HST.out, ← HMU.out], by rw [HNN.out], by omega, Lib.hid (HKd.out.trans HK2.out (fun k hk => by simp at hk))⟩, by simp [intOf]; omega⟩
              · have hbe : (d1 + y1 == r1) = false := beq_eq_false_iff_ne.mpr heq
                have hb1 : bitR g h s (m + 3) i t = 1 := by rw [HBD.out, if_pos (by omega)]
                have hnx := HNX.out 49 (by rw [hb1]; rfl)
                have hst : ((stR g h s (m + 3) (i + 1) : Nat) : Int) = (2 * (t : Int) + 1) % 8 := by rw [HNS.out, hb1]; omega
                have HNN := Lib.hid hnx
                have HST := Lib.hid hst
                clear hb1 hnx hst HBD HNX HNS hu
                go_wp2_with fail
                apply R.wp_region_text [0, 1, 2, 3, 4, 6, 7, 8, 9, 10, 11, 12, 13, 14, 16, 17, 18, 19, 20, 21] [5, 15, 22] 23 (R.Keeps [] wd)
                case hm => kernel_rfl
                case hB => kernel_rfl
                case hd => rfl
                case hQ => exact fun _ _ _ _ _ h => h
                case hS => exact (R.Keeps.refl _ _).drew
                case hF =>
                  intro w' hS
                  obtain ⟨z1, z2⟩ := yx.out w' hS
                  obtain ⟨hw1, hw3, hw4, hmod⟩ := HW.out
                  clear hS
                  simp only [R.pickC, List.filterMap_cons, List.getElem?_toArray, List.getElem?_cons_zero, List.getElem?_cons_succ, List.filterMap_nil]
                  (with_reducible refine R.wpStill_plain rfl (fun K hK => ?_)); go_simp; with_reducible refine hK _ ?_; clear hK K
                  (with_reducible refine R.wpStill_plain rfl (fun K hK => ?_)); go_simp; with_reducible refine hK _ ?_; clear hK K
                  (with_reducible refine R.wpStill_plain rfl (fun K hK => ?_)); go_simp; with_reducible refine hK _ ?_; clear hK K
                  (with_reducible refine R.wpStill_plain rfl (fun K hK => ?_)); go_simp; with_reducible refine hK _ ?_; clear hK K
                  (with_reducible refine R.wpStill_plain rfl (fun K hK => ?_)); go_simp; with_reducible refine hK _ ?_; clear hK K
                  (with_reducible refine R.wpStill_plain rfl (fun K hK => ?_)); go_simp; with_reducible refine hK _ ?_; clear hK K
                  (with_reducible refine R.wpStill_plain rfl (fun K hK => ?_)); go_simp; with_reducible refine hK _ ?_; clear hK K
                  (with_reducible refine R.wpStill_plain rfl (fun K hK => ?_)); go_simp; with_reducible refine hK _ ?_; clear hK K
                  (with_reducible refine R.wpStill_plain rfl (fun K hK => ?_)); go_simp; with_reducible refine hK _ ?_; clear hK K
                  (with_reducible refine R.wpStill_plain rfl (fun K hK => ?_)); go_simp; with_reducible refine hK _ ?_; clear hK K
                  (with_reducible refine R.wpStill_plain rfl (fun K hK => ?_)); go_simp; with_reducible refine hK _ ?_; clear hK K
                  (with_reducible refine R.wpStill_plain rfl (fun K hK => ?_)); go_simp; with_reducible refine hK _ ?_; clear hK K
                  (with_reducible refine R.wpStill_plain rfl (fun K hK => ?_)); go_simp; with_reducible refine hK _ ?_; clear hK K
                  (with_reducible refine R.wpStill_plain rfl (fun K hK => ?_)); go_simp; with_reducible refine hK _ ?_; clear hK K
                  (with_reducible refine R.wpStill_plain rfl (fun K hK => ?_)); go_simp; with_reducible refine hK _ ?_; clear hK K
                  (with_reducible refine R.wpStill_plain rfl (fun K hK => ?_)); go_simp; with_reducible refine hK _ ?_; clear hK K
                  (with_reducible refine R.wpStill_plain rfl (fun K hK => ?_)); go_simp; with_reducible refine hK _ ?_; clear hK K
                  (with_reducible refine R.wpStill_plain rfl (fun K hK => ?_)); go_simp; with_reducible refine hK _ ?_; clear hK K
                  (with_reducible refine R.wpStill_plain rfl (fun K hK => ?_)); go_simp; with_reducible refine hK _ ?_; clear hK K
                  (with_reducible refine R.wpStill_plain rfl (fun K hK => ?_)); go_simp; with_reducible refine hK _ ?_; clear hK K
                  exact wpStill_nil rfl
                case hC =>
                  simp only [R.chainOf, List.getElem?_toArray, List.getElem?_cons_zero, List.getElem?_cons_succ, Nat.reduceBNe, Bool.and_true, Bool.and_false, Bool.false_and]
                  refine R.wpSeq_same (fun K hK => ?_)
                  go_simp
                  refine (HC.out _).mono ?_
                  rintro e w2 ⟨rfl, hB2⟩
                  have hK2 : R.Keeps [] wd w2 := ((R.Keeps.refl [] _).drew).trans (R.Keeps.of_below [] hB2) (fun k hk => by simp at hk)
                  refine hK _ _ hK2 ?_
                  clear hK K
                  have HK2 := Lib.hid hK2
                  have HKL_w2 := Lib.hid hK2
                  clear hB2 hK2
                  refine R.wpSeq_same (fun K hK => ?_)
                  have hw3 := HW.out.2.1
                  go_simp
                  with_reducible refine hK _ _ HK2.out ?_
                  clear hK K hw3
                  refine R.wpSeq_same (fun K hK => ?_)
                  go_simp
                  with_reducible refine hK _ _ HK2.out ?_
                  clear hK K
                  refine R.wpSeq_nil ?_
                  have hw4 := HW.out.2.2.1
                  try rw [hbe]
                  go_wp2_with fail
                  refine ⟨⟨i + 1, by go_num, by rw [HST.out], by rw [HNN.out], by omega, Lib.hid (HKd.out.trans HK2.out (fun k hk => by simp at hk))⟩, by simp [intOf]; omega⟩
            · obtain rfl : i = m := by omega
              have y00 : wd.cell? ⟨gb, 0, none⟩ = some (.int .i64 (VR g h s (i + 3) 0 0)) := HRf.out wd HKd.out 0 0 (by omega) (by omega)
              obtain ⟨r, hr⟩ : ∃ r, VR g h s (i + 3) 0 0 = r := ⟨_, rfl⟩
              rw [hr] at y00
              have HRR := Lib.hid hr
              have CE : Hid (∀ w', Below wd.heap.size wd w' → w'.cell? ⟨gb, 0, none⟩ = some (.int .i64 r)) := Lib.hid (fun w' hw => (R.Keeps.of_below [] hw).cell y00 (by simp))
              have hn0 : (0 : Int) < (i : Int) + 1 := by omega
              clear y00 hr
              go_wp2_with fail
              go_region_held3 (fun w' => w'.cell? ⟨gb, 0, none⟩ = some (.int .i64 r))
                ((refine CE.out _ ?_; first | exact (Below.refl _ _).drew | exact Below.refl _ _))
                (fail)
              all_goals
                go_wp2_with fail
                refine bodyPost_ret (v := .tuple #[.string ⟨(msgR g h s (i + 3) i).toArray⟩, .int .i64 r]) (by simp [results, Try.results35, go_sem]) rfl ⟨by rw [HRR.out], HFB.out.trans ((HKd.out.drew).to_below (B := B) (by have := HFB.out.size; have := HB.out; omega) (fun k hk => by simp at hk))⟩
        · have hv : ((p + 1 : Nat) : Int) - 1 = (p : Int) := by omega
          rw [hv]
          clear hv
          have hpm : p ≤ m := by omega
          go_wp2_with fail
          go_loopw [12, 13, 14, 16, 17] (fun v12 _ _ _ _ wi => ∃ t : Nat, v12 = .int .i64 (t : Int) ∧ t ≤ 8 ∧ Hid (RowsR wi gb (m + 1) (tabR g h s (m + 3) (p + 1) t)) ∧ Hid (R.Keeps [gb] w3 wi)) (fun v12 _ _ _ _ _ => 8 - (intOf v12).toNat)
          case atStart => exact ⟨0, rfl, Nat.zero_le _, HR, HK⟩
          case round =>
            rename World => wi
            obtain ⟨t, rfl, ht, HRi, HKi⟩ := hrel
            by_cases ht8 : t < 8
            · have ht8' : (t : Int) < 8 := by omega
              have ht0 : (0 : Int) ≤ (t : Int) := by omega
              have hp0 : (0 : Int) ≤ (p : Int) := by omega
              have hp1 : (p : Int) < (m : Int) + 1 := by omega
              have HSET : Hid (∀ (W : World) (v : Int), RowsR W gb (m + 1) (tabR g h s (m + 3) (p + 1) t) → v = VR g h s (m + 3) p t → RowsR (W.setCell ⟨gb, p * 8 + t, none⟩ (.int .i64 v)) gb (m + 1) (tabR g h s (m + 3) (p + 1) (t + 1))) :=
                Lib.hid (fun W v hW hv => (hW.set (by omega) ht8 v).congr (fun a c ha hc => by
                  unfold tabR
                  by_cases e : a = p ∧ c = t
                  · rw [if_pos e, if_pos (by omega), hv, e.1, e.2]
                  · rw [if_neg e]
                    by_cases e2 : p + 1 ≤ a ∨ (a + 1 = p + 1 ∧ c < t)
                    · rw [if_pos e2, if_pos (by omega)]
                    · rw [if_neg e2, if_neg (by omega)]))
              have HMV : Hid (∀ W : World, R.Keeps [] wi W → RowsR W gb (m + 1) (tabR g h s (m + 3) (p + 1) t)) := Lib.hid (fun W hW => HRi.out.move (hW.block gb HRi.out.size (by simp)))
              by_cases hpe : p = m
              · subst hpe
                have hvb := VR_base g h s (m := p) (t := t) hm ht8
                obtain ⟨t1, ht1⟩ : ∃ t1, 2 * t % 8 = t1 := ⟨_, rfl⟩
                obtain ⟨t2, ht2⟩ : ∃ t2, 2 * t1 % 8 = t2 := ⟨_, rfl⟩
                rw [ht1, ht2] at hvb
                have HC1 : Hid (∀ W : World, Calls Try.prog 63 #[.string s, .int .i64 (p : Int), .int .i64 (t : Int), .int .i64 0, .int .i64 (g : Int), .int .i64 (h : Int)] W fun e w' => e = .returned (.int .i64 (stepI g h s (2 * p) (2 * t))) ∧ Below W.heap.size W w') := Lib.hid (fun W => HSC.out p t 0 (by omega) ht8 (by omega) W)
                have HC2 : Hid (∀ W : World, Calls Try.prog 63 #[.string s, .int .i64 ((p : Int) + 1), .int .i64 (t1 : Int), .int .i64 0, .int .i64 (g : Int), .int .i64 (h : Int)] W fun e w' => e = .returned (.int .i64 (stepI g h s (2 * (p + 1)) (2 * t1))) ∧ Below W.heap.size W w') := Lib.hid (fun W => HSC.out (p + 1) t1 0 (by omega) (by omega) (by omega) W)
                have HC3 : Hid (∀ W : World, Calls Try.prog 63 #[.string s, .int .i64 ((p : Int) + 2), .int .i64 (t2 : Int), .int .i64 0, .int .i64 (g : Int), .int .i64 (h : Int)] W fun e w' => e = .returned (.int .i64 (stepI g h s (2 * (p + 2)) (2 * t2))) ∧ Below W.heap.size W w') := Lib.hid (fun W => HSC.out (p + 2) t2 0 (by omega) (by omega) (by omega) W)
                have b1 := step_bd g h s (2 * p) (2 * t)
                have b2 := step_bd g h s (2 * (p + 1)) (2 * t1)
                have b3 := step_bd g h s (2 * (p + 2)) (2 * t2)
                obtain ⟨p1, hp1'⟩ : ∃ p1, stepI g h s (2 * p) (2 * t) = p1 := ⟨_, rfl⟩
                obtain ⟨p2, hp2'⟩ : ∃ p2, stepI g h s (2 * (p + 1)) (2 * t1) = p2 := ⟨_, rfl⟩
                obtain ⟨p3, hp3'⟩ : ∃ p3, stepI g h s (2 * (p + 2)) (2 * t2) = p3 := ⟨_, rfl⟩
                rw [hp1'] at b1 hvb HC1
                rw [hp2'] at b2 hvb HC2
                rw [hp3'] at b3 hvb HC3
                have HVB := Lib.hid hvb
                clear hvb hp1' hp2' hp3'
                go_wp2_with fail
                refine wp_loop_rounds 4 ?_
                rw [rounds_succ]
                go_wp2_with fail
                refine (HC1.out _).mono ?_
                rintro e w4 ⟨rfl, hB4⟩
                have HK4 := Lib.hid (R.Keeps.of_below [] hB4)
                clear hB4
                go_wp2_with fail
                rw [rounds_succ]
                go_wp2_with fail
                rw [show (2 * (t : Int) % 8) = (t1 : Int) by omega]
                refine (HC2.out _).mono ?_
                rintro e w5 ⟨rfl, hB5⟩
                have HK5 := Lib.hid (HK4.out.trans (R.Keeps.of_below [] hB5) (fun k hk => by simp at hk))
                clear hB5
                go_wp2_with fail
                rw [rounds_succ]
                go_wp2_with fail
                rw [show (2 * (t1 : Int) % 8) = (t2 : Int) by omega]
                refine (HC3.out _).mono ?_
                rintro e w6 ⟨rfl, hB6⟩
                have HK6 := Lib.hid (HK5.out.trans (R.Keeps.of_below [] hB6) (fun k hk => by simp at hk))
                clear hB6
                have f1 : w6.frozen? ⟨gb, p * 8 + t, none⟩ = false := (HMV.out w6 HK6.out).frozen _
                have c1 : w6.cell? ⟨gb, p * 8 + t, none⟩ = some (.int .i64 (tabR g h s (p + 3) (p + 1) t p t)) := (HMV.out w6 HK6.out).cell (by omega) ht8
                go_wp2_with fail
                rw [rounds_succ]
                go_wp2_with fail
                refine ⟨⟨t + 1, by go_num, by omega, Lib.hid (HSET.out _ _ (HMV.out w6 HK6.out) ?_), Lib.hid ((HKi.out.trans HK6.out (fun k hk => by simp at hk)).setCell (fun _ => by simp) _)⟩, by simp [intOf]; omega⟩
                rw [HVB.out]
              · have hne : ((p : Int) == (m : Int)) = false := beq_eq_false_iff_ne.mpr (by omega)
                have hfr := VR_free g h s (n := m + 3) (i := p) (t := t) (by omega) (by omega) ht8 (by omega)
                have hv0 := VR_bd g h s (n := m + 3) (by omega) (m + 3 - (p + 1)) (p + 1) (2 * t % 8) (by omega) (by omega)
                have hv1 := VR_bd g h s (n := m + 3) (by omega) (m + 3 - (p + 1)) (p + 1) ((2 * t + 1) % 8) (by omega) (by omega)
                obtain ⟨u0, hu0⟩ : ∃ u0, 2 * t % 8 = u0 := ⟨_, rfl⟩
                obtain ⟨u1, hu1⟩ : ∃ u1, (2 * t + 1) % 8 = u1 := ⟨_, rfl⟩
                rw [hu0] at hfr hv0
                rw [hu1] at hfr hv1
                have HC1 : Hid (∀ W : World, Calls Try.prog 63 #[.string s, .int .i64 (p : Int), .int .i64 (t : Int), .int .i64 0, .int .i64 (g : Int), .int .i64 (h : Int)] W fun e w' => e = .returned (.int .i64 (stepI g h s (2 * p) (2 * t))) ∧ Below W.heap.size W w') := Lib.hid (fun W => HSC.out p t 0 (by omega) ht8 (by omega) W)
                have HC2 : Hid (∀ W : World, Calls Try.prog 63 #[.string s, .int .i64 (p : Int), .int .i64 (t : Int), .int .i64 1, .int .i64 (g : Int), .int .i64 (h : Int)] W fun e w' => e = .returned (.int .i64 (stepI g h s (2 * p) (2 * t + 1))) ∧ Below W.heap.size W w') := Lib.hid (fun W => HSC.out p t 1 (by omega) ht8 (by omega) W)
                have CE : Hid (∀ W : World, R.Keeps [] wi W → W.cell? ⟨gb, (p + 1) * 8 + u0, none⟩ = some (.int .i64 (VR g h s (m + 3) (p + 1) u0)) ∧ W.cell? ⟨gb, (p + 1) * 8 + u1, none⟩ = some (.int .i64 (VR g h s (m + 3) (p + 1) u1))) := Lib.hid (fun W hW => by
                  have k0 := (HMV.out W hW).cell (i := p + 1) (j := u0) (by omega) (by omega)
                  have k1 := (HMV.out W hW).cell (i := p + 1) (j := u1) (by omega) (by omega)
                  unfold tabR at k0 k1
                  rw [if_pos (by omega)] at k0 k1
                  exact ⟨k0, k1⟩)
                have b1 := step_bd g h s (2 * p) (2 * t)
                have b2 := step_bd g h s (2 * p) (2 * t + 1)
                obtain ⟨p1, hp1'⟩ : ∃ p1, stepI g h s (2 * p) (2 * t) = p1 := ⟨_, rfl⟩
                obtain ⟨p2, hp2'⟩ : ∃ p2, stepI g h s (2 * p) (2 * t + 1) = p2 := ⟨_, rfl⟩
                obtain ⟨y1, hy1⟩ : ∃ y1, VR g h s (m + 3) (p + 1) u0 = y1 := ⟨_, rfl⟩
                obtain ⟨y2, hy2⟩ : ∃ y2, VR g h s (m + 3) (p + 1) u1 = y2 := ⟨_, rfl⟩
                rw [hp1'] at b1 hfr HC1
                rw [hp2'] at b2 hfr HC2
                rw [hy1] at hfr CE hv0
                rw [hy2] at hfr CE hv1
                have hw1 : IntKind.i64.wrap ((p : Int) + 1) = (p : Int) + 1 := IntWalk.i64_in _ (by omega)
                have hw2 : IntKind.i64.wrap (p1 + y1) = p1 + y1 := IntWalk.i64_in _ (by omega)
                have hw3 : IntKind.i64.wrap (p2 + y2) = p2 + y2 := IntWalk.i64_in _ (by omega)
                have hw4 : IntKind.i64.wrap (2 * (t : Int)) = 2 * (t : Int) := IntWalk.i64_in _ (by omega)
                have hw5 : IntKind.i64.wrap (2 * (t : Int) + 1) = 2 * (t : Int) + 1 := IntWalk.i64_in _ (by omega)
                have hm0 : (2 * (t : Int)).tmod 8 = (u0 : Int) := by rw [Int.tmod_eq_emod_of_nonneg (by omega)]; omega
                have hm1 : (2 * (t : Int) + 1).tmod 8 = (u1 : Int) := by rw [Int.tmod_eq_emod_of_nonneg (by omega)]; omega
                have HW := Lib.hid (And.intro hw1 (And.intro hw2 (And.intro hw3 (And.intro hw4 (And.intro hw5 (And.intro hm0 hm1))))))
                have hq0 : (0 : Int) ≤ (p : Int) + 1 := by omega
                have hq1 : (p : Int) + 1 < (m : Int) + 1 := by omega
                have hu00 : (0 : Int) ≤ (u0 : Int) := by omega
                have hu08 : (u0 : Int) < 8 := by omega
                have hu10 : (0 : Int) ≤ (u1 : Int) := by omega
                have hu18 : (u1 : Int) < 8 := by omega
                have HFR := Lib.hid hfr
                clear hfr hp1' hp2' hy1 hy2 hw1 hw2 hw3 hw4 hw5 hm0 hm1 hu0 hu1
                go_wp2_with fail
                apply R.wp_region_text [0, 1, 2, 3, 4, 6, 7, 8, 9, 10, 11, 12, 13, 14] [5, 15, 16] 16 (R.Keeps [] wi)
                case hm => kernel_rfl
                case hB => kernel_rfl
                case hd => rfl
                case hQ => exact fun _ _ _ _ _ h => h
                case hS => exact (R.Keeps.refl _ _).drew
                case hF =>
                  intro w' hS
                  obtain ⟨z1, z2⟩ := CE.out w' hS
                  obtain ⟨hw1, -, -, hw4, hw5, hm0, hm1⟩ := HW.out
                  clear hS
                  simp only [R.pickC, List.filterMap_cons, List.getElem?_toArray, List.getElem?_cons_zero, List.getElem?_cons_succ, List.filterMap_nil]
                  (with_reducible refine R.wpStill_plain rfl (fun K hK => ?_)); go_simp; with_reducible refine hK _ ?_; clear hK K
                  (with_reducible refine R.wpStill_plain rfl (fun K hK => ?_)); go_simp; with_reducible refine hK _ ?_; clear hK K
                  (with_reducible refine R.wpStill_plain rfl (fun K hK => ?_)); go_simp; with_reducible refine hK _ ?_; clear hK K
                  (with_reducible refine R.wpStill_plain rfl (fun K hK => ?_)); go_simp; with_reducible refine hK _ ?_; clear hK K
                  (with_reducible refine R.wpStill_plain rfl (fun K hK => ?_)); go_simp; with_reducible refine hK _ ?_; clear hK K
                  (with_reducible refine R.wpStill_plain rfl (fun K hK => ?_)); go_simp; with_reducible refine hK _ ?_; clear hK K
                  (with_reducible refine R.wpStill_plain rfl (fun K hK => ?_)); go_simp; with_reducible refine hK _ ?_; clear hK K
                  (with_reducible refine R.wpStill_plain rfl (fun K hK => ?_)); go_simp; with_reducible refine hK _ ?_; clear hK K
                  (with_reducible refine R.wpStill_plain rfl (fun K hK => ?_)); go_simp; with_reducible refine hK _ ?_; clear hK K
                  (with_reducible refine R.wpStill_plain rfl (fun K hK => ?_)); go_simp; with_reducible refine hK _ ?_; clear hK K
                  (with_reducible refine R.wpStill_plain rfl (fun K hK => ?_)); go_simp; with_reducible refine hK _ ?_; clear hK K
                  (with_reducible refine R.wpStill_plain rfl (fun K hK => ?_)); go_simp; with_reducible refine hK _ ?_; clear hK K
                  (with_reducible refine R.wpStill_plain rfl (fun K hK => ?_)); go_simp; with_reducible refine hK _ ?_; clear hK K
                  (with_reducible refine R.wpStill_plain rfl (fun K hK => ?_)); go_simp; with_reducible refine hK _ ?_; clear hK K
                  exact wpStill_nil rfl
                case hC =>
                  simp only [R.chainOf, List.getElem?_toArray, List.getElem?_cons_zero, List.getElem?_cons_succ, Nat.reduceBNe, Bool.and_true, Bool.and_false, Bool.false_and]
                  refine R.wpSeq_same (fun K hK => ?_)
                  go_simp
                  refine (HC1.out _).mono ?_
                  rintro e w5 ⟨rfl, hB2⟩
                  have hK2 : R.Keeps [] wi w5 := ((R.Keeps.refl [] _).drew).trans (R.Keeps.of_below [] hB2) (fun k hk => by simp at hk)
                  refine hK _ _ hK2 ?_
                  clear hK K
                  have HK5 := Lib.hid hK2
                  have HKL_w5 := Lib.hid hK2
                  clear hB2 hK2
                  refine R.wpSeq_same (fun K hK => ?_)
                  have hw := HW.out.2.1
                  go_simp
                  with_reducible refine hK _ _ HKL_w5.out ?_
                  clear hK K hw
                  refine R.wpSeq_tail _ rfl ?_
                  simp only [List.map_cons, List.map_nil]
                  go_wp2_with fail
                  apply R.wp_region_text [0, 1, 2, 3, 4, 6, 7, 8, 9, 10, 11, 12, 13, 14, 15] [5, 16, 17] 17 (R.Keeps [] w5)
                  case hm => kernel_rfl
                  case hB => kernel_rfl
                  case hd => rfl
                  case hQ => exact fun _ _ _ _ _ h => h
                  case hS => exact (R.Keeps.refl _ _).drew
                  case hF =>
                    intro w' hS
                    obtain ⟨z1, z2⟩ := CE.out w' (HK5.out.trans hS (fun k hk => by simp at hk))
                    obtain ⟨hw1, -, -, hw4, hw5, hm0, hm1⟩ := HW.out
                    clear hS
                    simp only [R.pickC, List.filterMap_cons, List.getElem?_toArray, List.getElem?_cons_zero, List.getElem?_cons_succ, List.filterMap_nil]
                    (with_reducible refine R.wpStill_plain rfl (fun K hK => ?_)); go_simp; with_reducible refine hK _ ?_; clear hK K
                    (with_reducible refine R.wpStill_plain rfl (fun K hK => ?_)); go_simp; with_reducible refine hK _ ?_; clear hK K
                    (with_reducible refine R.wpStill_plain rfl (fun K hK => ?_)); go_simp; with_reducible refine hK _ ?_; clear hK K
                    (with_reducible refine R.wpStill_plain rfl (fun K hK => ?_)); go_simp; with_reducible refine hK _ ?_; clear hK K
                    (with_reducible refine R.wpStill_plain rfl (fun K hK => ?_)); go_simp; with_reducible refine hK _ ?_; clear hK K
                    (with_reducible refine R.wpStill_plain rfl (fun K hK => ?_)); go_simp; with_reducible refine hK _ ?_; clear hK K
                    (with_reducible refine R.wpStill_plain rfl (fun K hK => ?_)); go_simp; with_reducible refine hK _ ?_; clear hK K
                    (with_reducible refine R.wpStill_plain rfl (fun K hK => ?_)); go_simp; with_reducible refine hK _ ?_; clear hK K
                    (with_reducible refine R.wpStill_plain rfl (fun K hK => ?_)); go_simp; with_reducible refine hK _ ?_; clear hK K
                    (with_reducible refine R.wpStill_plain rfl (fun K hK => ?_)); go_simp; with_reducible refine hK _ ?_; clear hK K
                    (with_reducible refine R.wpStill_plain rfl (fun K hK => ?_)); go_simp; with_reducible refine hK _ ?_; clear hK K
                    (with_reducible refine R.wpStill_plain rfl (fun K hK => ?_)); go_simp; with_reducible refine hK _ ?_; clear hK K
                    (with_reducible refine R.wpStill_plain rfl (fun K hK => ?_)); go_simp; with_reducible refine hK _ ?_; clear hK K
                    (with_reducible refine R.wpStill_plain rfl (fun K hK => ?_)); go_simp; with_reducible refine hK _ ?_; clear hK K
                    (with_reducible refine R.wpStill_plain rfl (fun K hK => ?_)); go_simp; with_reducible refine hK _ ?_; clear hK K
                    exact wpStill_nil rfl
                  case hC =>
                    simp only [R.chainOf, List.getElem?_toArray, List.getElem?_cons_zero, List.getElem?_cons_succ, Nat.reduceBNe, Bool.and_true, Bool.and_false, Bool.false_and]
                    refine R.wpSeq_same (fun K hK => ?_)
                    go_simp
                    refine (HC2.out _).mono ?_
                    rintro e w6 ⟨rfl, hB2⟩
                    have hK2 : R.Keeps [] w5 w6 := ((R.Keeps.refl [] _).drew).trans (R.Keeps.of_below [] hB2) (fun k hk => by simp at hk)
                    refine hK _ _ hK2 ?_
                    clear hK K
                    have HK6 := Lib.hid (HK5.out.trans hK2 (fun k hk => by simp at hk))
                    have HKL_w6 := Lib.hid hK2
                    clear hB2 hK2
                    refine R.wpSeq_same (fun K hK => ?_)
                    have hw := HW.out.2.2.1
                    go_simp
                    with_reducible refine hK _ _ HKL_w6.out ?_
                    clear hK K hw
                    refine R.wpSeq_tail _ rfl ?_
                    simp only [List.map_cons, List.map_nil]
                    have f1 : w6.frozen? ⟨gb, p * 8 + t, none⟩ = false := (HMV.out w6 HK6.out).frozen _
                    have c1 : w6.cell? ⟨gb, p * 8 + t, none⟩ = some (.int .i64 (tabR g h s (m + 3) (p + 1) t p t)) := (HMV.out w6 HK6.out).cell (by omega) ht8
                    go_wp2_with fail
                    refine ⟨⟨t + 1, by go_num, by omega, Lib.hid (HSET.out _ _ (HMV.out w6 HK6.out) ?_), Lib.hid ((HKi.out.trans HK6.out (fun k hk => by simp at hk)).setCell (fun _ => by simp) _)⟩, by simp [intOf]; omega⟩
                    rw [HFR.out]
            · obtain rfl : t = 8 := by omega
              simp only [show ((8 : Nat) : Int) = 8 from rfl]
              go_wp2_with fail
              refine ⟨⟨p, by go_num, by omega, Lib.hid (HRi.out.congr (fun i j hi hj => ?_)), HKi⟩, by simp [intOf]⟩
              unfold tabR
              by_cases e : p ≤ i
              · rw [if_pos (by omega), if_pos (by omega)]
              · rw [if_neg (by omega), if_neg (by omega)]
end Go.Proofs.Ytcpojohpmcnnhaa.L

set_option linter.unusedVariables false
set_option linter.unusedSimpArgs false
namespace Go.Proofs.Ytcpojohpmcnnhaa.PA
open Go.RowKit Go.Proofs.YtcpojohpmcnnhaaW.PrintWords Go.Proofs.YtcpojohpmcnnhaaW.PrintLast Go.Proofs.YtcpojohpmcnnhaaW.PrintMore
def turndownref06_Read.f (a0 : ByteArray) (a1 : Int) (a2 : Int) : Option (ByteArray × Int) :=
  if tapsOk a1 a2 ∧ a0.size % 2 = 0 ∧ 6 ≤ a0.size ∧ a0.size ≤ 1000 then some (⟨(A.msgR a1.toNat a2.toNat a0 (a0.size / 2) (a0.size / 2 - 3)).toArray⟩, L.VR a1.toNat a2.toNat a0 (a0.size / 2) 0 0) else none
theorem turndownref06_Read.calls (a0 : ByteArray) (a1 : Int) (a2 : Int) (r1 : ByteArray) (r2 : Int) (w : World) (h : turndownref06_Read.f a0 a1 a2 = some (r1, r2)) :
    Calls Try.prog 35 #[.string a0, .int .i64 a1, .int .i64 a2] w fun e w' => e = .returned (.tuple #[.string r1, .int .i64 r2]) ∧ Below w.heap.size w w' := by
  unfold turndownref06_Read.f at h
  split at h
  · rename_i hc
    obtain ⟨⟨h0, h1, h2, h3⟩, h4, h5, h6⟩ := hc
    obtain ⟨rfl, rfl⟩ := Prod.mk.inj (Option.some.inj h)
    obtain ⟨g, rfl⟩ := Int.eq_ofNat_of_zero_le h0
    obtain ⟨q, rfl⟩ := Int.eq_ofNat_of_zero_le h2
    obtain ⟨m, hm⟩ : ∃ m, a0.size / 2 = m + 3 := ⟨a0.size / 2 - 3, by omega⟩
    rw [hm]
    exact L.refRead_c g q a0 m w (by omega) (by omega) (by omega) (by omega)
  · cases h
end Go.Proofs.Ytcpojohpmcnnhaa.PA

namespace Go.Proofs.Ytcpojohpmcnnhaa.PA
open Go.RowKit Go.Proofs.YtcpojohpmcnnhaaW.PrintWords Go.Proofs.YtcpojohpmcnnhaaW.PrintLast Go.Proofs.YtcpojohpmcnnhaaW.PrintMore
attribute [local go_sem] max2_int min2_int max_two min_two max_three min_three max_four min_four
set_option linter.unusedVariables false
set_option linter.unusedSimpArgs false
def turndownlaw06_CodeReads.j0 : Nat → ByteArray → Int → Int → ByteArray → Int → Int → Bool → Option (Bool)
 | 0, _, _, _, _, _, _, _ => none
 | k + 1, x5, x6, x7, x8, x9, x10, x58 => if x58 = true then (if x8.toList = ([] : List UInt8) then (if x9 = 0 then (if x10 = 2 then ((turndownlaw06_awake.f k).bind fun t302 => (some t302)) else (some false)) else (some false)) else (some false)) else ((turndownref06_Read.f x5 x6 x7).bind fun bt303 => (if x8.toList = bt303.1.toList then (if x9 = bt303.2 then (if x10 = 0 then ((turndownlaw06_awake.f k).bind fun t305 => (some t305)) else (some false)) else (some false)) else (some false)))
def turndownlaw06_CodeReads.f (k : Nat) (a0 : ByteArray) (a1_0 : Int) (a1_1 : Int) : Option (Bool) := if 0 ≤ (mn (a0.size : Int) 200) then (if (mn (a0.size : Int) 200) ≤ (a0.size : Int) then ((code_Read.f k (a0.extract 0 ((mn (a0.size : Int) 200) : Int).toNat) a1_0 a1_1).bind fun bt296 => (if (((a0.extract 0 ((mn (a0.size : Int) 200) : Int).toNat).size : Int) % 2) = 1 then (turndownlaw06_CodeReads.j0 k (a0.extract 0 ((mn (a0.size : Int) 200) : Int).toNat) a1_0 a1_1 bt296.1 bt296.2.1 bt296.2.2 true) else (if ((a0.extract 0 ((mn (a0.size : Int) 200) : Int).toNat).size : Int) < 6 then (turndownlaw06_CodeReads.j0 k (a0.extract 0 ((mn (a0.size : Int) 200) : Int).toNat) a1_0 a1_1 bt296.1 bt296.2.1 bt296.2.2 true) else (if ((a0.extract 0 ((mn (a0.size : Int) 200) : Int).toNat).size : Int) > 134 then (turndownlaw06_CodeReads.j0 k (a0.extract 0 ((mn (a0.size : Int) 200) : Int).toNat) a1_0 a1_1 bt296.1 bt296.2.1 bt296.2.2 true) else ((turndownref06_Bits.f k (a0.extract 0 ((mn (a0.size : Int) 200) : Int).toNat)).bind fun t299 => (if t299 = true then ((turndownref06_Tap.f a1_0).bind fun t300 => (if t300 = true then ((turndownref06_Tap.f a1_1).bind fun t301 => (turndownlaw06_CodeReads.j0 k (a0.extract 0 ((mn (a0.size : Int) 200) : Int).toNat) a1_0 a1_1 bt296.1 bt296.2.1 bt296.2.2 (!t301))) else (turndownlaw06_CodeReads.j0 k (a0.extract 0 ((mn (a0.size : Int) 200) : Int).toNat) a1_0 a1_1 bt296.1 bt296.2.1 bt296.2.2 true))) else (turndownlaw06_CodeReads.j0 k (a0.extract 0 ((mn (a0.size : Int) 200) : Int).toNat) a1_0 a1_1 bt296.1 bt296.2.1 bt296.2.2 true))))))) else (none)) else (none)
set_option maxHeartbeats 8000000 in
set_option maxRecDepth 100000 in
theorem turndownlaw06_CodeReads.calls (k : Nat) (a0 : ByteArray) (a1_0 : Int) (a1_1 : Int) (r : Bool) (w : World) (h : turndownlaw06_CodeReads.f k a0 a1_0 a1_1 = some r) :
  Calls Try.prog 6 #[.string a0, .agg #[.int .i64 a1_0, .int .i64 a1_1]] w fun e w' => e = .returned (.bool r) ∧ Below w.heap.size w w' := by
 have hu38 := Try.underlying38
 have HB := Aside0.mk (Below.refl w.heap.size w)
 have H : (if 0 ≤ (mn (a0.size : Int) 200) then (if (mn (a0.size : Int) 200) ≤ (a0.size : Int) then ((code_Read.f k (a0.extract 0 ((mn (a0.size : Int) 200) : Int).toNat) a1_0 a1_1).bind fun bt296 => (if (((a0.extract 0 ((mn (a0.size : Int) 200) : Int).toNat).size : Int) % 2) = 1 then (turndownlaw06_CodeReads.j0 k (a0.extract 0 ((mn (a0.size : Int) 200) : Int).toNat) a1_0 a1_1 bt296.1 bt296.2.1 bt296.2.2 true) else (if ((a0.extract 0 ((mn (a0.size : Int) 200) : Int).toNat).size : Int) < 6 then (turndownlaw06_CodeReads.j0 k (a0.extract 0 ((mn (a0.size : Int) 200) : Int).toNat) a1_0 a1_1 bt296.1 bt296.2.1 bt296.2.2 true) else (if ((a0.extract 0 ((mn (a0.size : Int) 200) : Int).toNat).size : Int) > 134 then (turndownlaw06_CodeReads.j0 k (a0.extract 0 ((mn (a0.size : Int) 200) : Int).toNat) a1_0 a1_1 bt296.1 bt296.2.1 bt296.2.2 true) else ((turndownref06_Bits.f k (a0.extract 0 ((mn (a0.size : Int) 200) : Int).toNat)).bind fun t299 => (if t299 = true then ((turndownref06_Tap.f a1_0).bind fun t300 => (if t300 = true then ((turndownref06_Tap.f a1_1).bind fun t301 => (turndownlaw06_CodeReads.j0 k (a0.extract 0 ((mn (a0.size : Int) 200) : Int).toNat) a1_0 a1_1 bt296.1 bt296.2.1 bt296.2.2 (!t301))) else (turndownlaw06_CodeReads.j0 k (a0.extract 0 ((mn (a0.size : Int) 200) : Int).toNat) a1_0 a1_1 bt296.1 bt296.2.1 bt296.2.2 true))) else (turndownlaw06_CodeReads.j0 k (a0.extract 0 ((mn (a0.size : Int) 200) : Int).toNat) a1_0 a1_1 bt296.1 bt296.2.1 bt296.2.2 true))))))) else (none)) else (none)) = some r := h
 clear h
 obtain ⟨ji3, hji3⟩ : ∃ j_ : Int, (mn (a0.size : Int) 200) = j_ := ⟨_, rfl⟩
 replace H : (if 0 ≤ (ji3) then (if (ji3) ≤ (a0.size : Int) then ((code_Read.f k (a0.extract 0 ((ji3) : Int).toNat) a1_0 a1_1).bind fun bt296 => (if (((a0.extract 0 ((ji3) : Int).toNat).size : Int) % 2) = 1 then (turndownlaw06_CodeReads.j0 k (a0.extract 0 ((ji3) : Int).toNat) a1_0 a1_1 bt296.1 bt296.2.1 bt296.2.2 true) else (if ((a0.extract 0 ((ji3) : Int).toNat).size : Int) < 6 then (turndownlaw06_CodeReads.j0 k (a0.extract 0 ((ji3) : Int).toNat) a1_0 a1_1 bt296.1 bt296.2.1 bt296.2.2 true) else (if ((a0.extract 0 ((ji3) : Int).toNat).size : Int) > 134 then (turndownlaw06_CodeReads.j0 k (a0.extract 0 ((ji3) : Int).toNat) a1_0 a1_1 bt296.1 bt296.2.1 bt296.2.2 true) else ((turndownref06_Bits.f k (a0.extract 0 ((ji3) : Int).toNat)).bind fun t299 => (if t299 = true then ((turndownref06_Tap.f a1_0).bind fun t300 => (if t300 = true then ((turndownref06_Tap.f a1_1).bind fun t301 => (turndownlaw06_CodeReads.j0 k (a0.extract 0 ((ji3) : Int).toNat) a1_0 a1_1 bt296.1 bt296.2.1 bt296.2.2 (!t301))) else (turndownlaw06_CodeReads.j0 k (a0.extract 0 ((ji3) : Int).toNat) a1_0 a1_1 bt296.1 bt296.2.1 bt296.2.2 true))) else (turndownlaw06_CodeReads.j0 k (a0.extract 0 ((ji3) : Int).toNat) a1_0 a1_1 bt296.1 bt296.2.1 bt296.2.2 true))))))) else (none)) else (none)) = some r := by first | (rw [hji3] at H; exact H) | (simp only [hji3] at H ⊢; exact H)
 (try (have hji3h : ji3 ≤ 200 := by (rw [← hji3]; unfold mn; (repeat' split) <;> omega)))
 (try (have hji3g : ji3 ≤ 64 := by omega))
 (try (have hji3l : 0 ≤ ji3 := by (rw [← hji3]; unfold mn; (repeat' split) <;> omega)))
 (try (have hji3m : 0 ≤ ji3 := by omega))
 have hji3_ : (if 200 < (a0.size : Int) then 200 else (a0.size : Int)) = ji3 := hji3
 by_cases c4 : 0 ≤ (ji3)
 ·
  rw [if_pos c4] at H
  have c4b0 := eq_true c4
  have c4b1 : decide (0 ≤ (ji3)) = true := decide_eq_true c4
  clear c4
  by_cases c5 : (ji3) ≤ (a0.size : Int)
  ·
   rw [if_pos c5] at H
   have c5b0 := eq_true c5
   have c5b1 : decide ((ji3) ≤ (a0.size : Int)) = true := decide_eq_true c5
   clear c5
   replace H := Option.bind_eq_some_iff.mp H
   obtain ⟨⟨t296, t297, t298⟩, A60, H⟩ := H
   replace H : (if (((a0.extract 0 ((ji3) : Int).toNat).size : Int) % 2) = 1 then (turndownlaw06_CodeReads.j0 k (a0.extract 0 ((ji3) : Int).toNat) a1_0 a1_1 t296 t297 t298 true) else (if ((a0.extract 0 ((ji3) : Int).toNat).size : Int) < 6 then (turndownlaw06_CodeReads.j0 k (a0.extract 0 ((ji3) : Int).toNat) a1_0 a1_1 t296 t297 t298 true) else (if ((a0.extract 0 ((ji3) : Int).toNat).size : Int) > 134 then (turndownlaw06_CodeReads.j0 k (a0.extract 0 ((ji3) : Int).toNat) a1_0 a1_1 t296 t297 t298 true) else ((turndownref06_Bits.f k (a0.extract 0 ((ji3) : Int).toNat)).bind fun t299 => (if t299 = true then ((turndownref06_Tap.f a1_0).bind fun t300 => (if t300 = true then ((turndownref06_Tap.f a1_1).bind fun t301 => (turndownlaw06_CodeReads.j0 k (a0.extract 0 ((ji3) : Int).toNat) a1_0 a1_1 t296 t297 t298 (!t301))) else (turndownlaw06_CodeReads.j0 k (a0.extract 0 ((ji3) : Int).toNat) a1_0 a1_1 t296 t297 t298 true))) else (turndownlaw06_CodeReads.j0 k (a0.extract 0 ((ji3) : Int).toNat) a1_0 a1_1 t296 t297 t298 true)))))) = some r := H
   have A6 := Aside0.mk A60
   clear A60
   have HC7 := Aside0.mk H
   clear H
   go_enter Try.func6, Try.ntmps6
   go_upto_region 4 with (first | ((with_reducible refine gate_dst (N := 3) rfl ?_); (try (refine gate_guard (by rfl) ?_; dsimp only)); refine box_event ?hg (N := 3) ?hd (cs := #[.int .i64 a1_0, .int .i64 a1_1]) (t := 38) ?hr ?_; (case hd => rfl); (case hg => rfl); (case hr => first | (go_simp; done) | (go_simp; rfl)); intro gb295 hg w8 hbox hb; have n0_ := Aside0.mk (below_step (by repeat (first | (with_reducible first | exact HB.out | apply below_alloc | apply pw_below_drewN | apply below_drew1) | exact HB.out)) hb); have n1_ := Aside0.mk (hbox); have n2_ := Aside0.mk ((by rw [hg]; exact (below_size (by repeat (first | (with_reducible first | exact HB.out | apply below_alloc | apply pw_below_drewN | apply below_drew1) | exact HB.out))) : w.heap.size ≤ gb295)); have n3_ := Aside0.mk ((by rw [hg]; exact (below_size (by repeat (first | (with_reducible first | exact HB.out | apply below_alloc | apply pw_below_drewN | apply below_drew1) | exact HB.out))) : w.heap.size ≤ gb295)); clear HB; have HB := n0_; have BK295 := n1_; have GW295 := n2_; have GE295 := n3_; clear n0_ n1_ n2_ n3_; clear hb hbox hg; have hcz9_0 : w8.cell? ⟨gb295, 0, none⟩ = some (.int .i64 a1_0) := (blk_cell BK295.out 0).trans rfl; have hcz9_1 : w8.cell? ⟨gb295, 1, none⟩ = some (.int .i64 a1_1) := (blk_cell BK295.out 1).trans rfl; have hfz9_0 := blk_frozen BK295.out 0; have hfz9_1 := blk_frozen BK295.out 1) | (go_at_call 34; (with_reducible refine (code_Read.calls k (a0.extract 0 ((ji3) : Int).toNat) a1_0 a1_1 t296 t297 t298 _ A6.out).mono ?_); rintro e w10 ⟨rfl, hb⟩; have n0_ := Aside0.mk (blk_below (g := gb295) (o := .cells #[.int .i64 a1_0, .int .i64 a1_1] 38 (0, 0)) (by (with_reducible repeat (first | refine blk_drewN ?_ _ | refine blk_drew ?_ | refine blk_alloc ?_ _)); exact BK295.out) hb); have n1_ := Aside0.mk (below_step (by repeat (first | (with_reducible first | exact HB.out | apply below_alloc | apply pw_below_drewN | apply below_drew1 | refine below_set ?_ GE295.out) | exact HB.out)) hb); clear BK295; clear HB; have BK295 := n0_; have HB := n1_; clear n0_ n1_; (try clear hb); (try clear hb2); (try clear hk); (try clear hi)))
   repeat (go_quiet (first | ((with_reducible refine gate_dst (N := 3) rfl ?_); (try (refine gate_guard (by rfl) ?_; dsimp only)); refine box_event ?hg (N := 3) ?hd (cs := #[.int .i64 a1_0, .int .i64 a1_1]) (t := 38) ?hr ?_; (case hd => rfl); (case hg => rfl); (case hr => first | (go_simp; done) | (go_simp; rfl)); intro gb295 hg w8 hbox hb; have n0_ := Aside0.mk (below_step (by repeat (first | (with_reducible first | exact HB.out | apply below_alloc | apply pw_below_drewN | apply below_drew1) | exact HB.out)) hb); have n1_ := Aside0.mk (hbox); have n2_ := Aside0.mk ((by rw [hg]; exact (below_size (by repeat (first | (with_reducible first | exact HB.out | apply below_alloc | apply pw_below_drewN | apply below_drew1) | exact HB.out))) : w.heap.size ≤ gb295)); have n3_ := Aside0.mk ((by rw [hg]; exact (below_size (by repeat (first | (with_reducible first | exact HB.out | apply below_alloc | apply pw_below_drewN | apply below_drew1) | exact HB.out))) : w.heap.size ≤ gb295)); clear HB; have HB := n0_; have BK295 := n1_; have GW295 := n2_; have GE295 := n3_; clear n0_ n1_ n2_ n3_; clear hb hbox hg; have hcz9_0 : w8.cell? ⟨gb295, 0, none⟩ = some (.int .i64 a1_0) := (blk_cell BK295.out 0).trans rfl; have hcz9_1 : w8.cell? ⟨gb295, 1, none⟩ = some (.int .i64 a1_1) := (blk_cell BK295.out 1).trans rfl; have hfz9_0 := blk_frozen BK295.out 0; have hfz9_1 := blk_frozen BK295.out 1) | (go_at_call 34; (with_reducible refine (code_Read.calls k (a0.extract 0 ((ji3) : Int).toNat) a1_0 a1_1 t296 t297 t298 _ A6.out).mono ?_); rintro e w10 ⟨rfl, hb⟩; have n0_ := Aside0.mk (blk_below (g := gb295) (o := .cells #[.int .i64 a1_0, .int .i64 a1_1] 38 (0, 0)) (by (with_reducible repeat (first | refine blk_drewN ?_ _ | refine blk_drew ?_ | refine blk_alloc ?_ _)); exact BK295.out) hb); have n1_ := Aside0.mk (below_step (by repeat (first | (with_reducible first | exact HB.out | apply below_alloc | apply pw_below_drewN | apply below_drew1 | refine below_set ?_ GE295.out) | exact HB.out)) hb); clear BK295; clear HB; have BK295 := n0_; have HB := n1_; clear n0_ n1_; (try clear hb); (try clear hb2); (try clear hk); (try clear hi))); go_upto_region 4 with (first | ((with_reducible refine gate_dst (N := 3) rfl ?_); (try (refine gate_guard (by rfl) ?_; dsimp only)); refine box_event ?hg (N := 3) ?hd (cs := #[.int .i64 a1_0, .int .i64 a1_1]) (t := 38) ?hr ?_; (case hd => rfl); (case hg => rfl); (case hr => first | (go_simp; done) | (go_simp; rfl)); intro gb295 hg w8 hbox hb; have n0_ := Aside0.mk (below_step (by repeat (first | (with_reducible first | exact HB.out | apply below_alloc | apply pw_below_drewN | apply below_drew1) | exact HB.out)) hb); have n1_ := Aside0.mk (hbox); have n2_ := Aside0.mk ((by rw [hg]; exact (below_size (by repeat (first | (with_reducible first | exact HB.out | apply below_alloc | apply pw_below_drewN | apply below_drew1) | exact HB.out))) : w.heap.size ≤ gb295)); have n3_ := Aside0.mk ((by rw [hg]; exact (below_size (by repeat (first | (with_reducible first | exact HB.out | apply below_alloc | apply pw_below_drewN | apply below_drew1) | exact HB.out))) : w.heap.size ≤ gb295)); clear HB; have HB := n0_; have BK295 := n1_; have GW295 := n2_; have GE295 := n3_; clear n0_ n1_ n2_ n3_; clear hb hbox hg; have hcz9_0 : w8.cell? ⟨gb295, 0, none⟩ = some (.int .i64 a1_0) := (blk_cell BK295.out 0).trans rfl; have hcz9_1 : w8.cell? ⟨gb295, 1, none⟩ = some (.int .i64 a1_1) := (blk_cell BK295.out 1).trans rfl; have hfz9_0 := blk_frozen BK295.out 0; have hfz9_1 := blk_frozen BK295.out 1) | (go_at_call 34; (with_reducible refine (code_Read.calls k (a0.extract 0 ((ji3) : Int).toNat) a1_0 a1_1 t296 t297 t298 _ A6.out).mono ?_); rintro e w10 ⟨rfl, hb⟩; have n0_ := Aside0.mk (blk_below (g := gb295) (o := .cells #[.int .i64 a1_0, .int .i64 a1_1] 38 (0, 0)) (by (with_reducible repeat (first | refine blk_drewN ?_ _ | refine blk_drew ?_ | refine blk_alloc ?_ _)); exact BK295.out) hb); have n1_ := Aside0.mk (below_step (by repeat (first | (with_reducible first | exact HB.out | apply below_alloc | apply pw_below_drewN | apply below_drew1 | refine below_set ?_ GE295.out) | exact HB.out)) hb); clear BK295; clear HB; have BK295 := n0_; have HB := n1_; clear n0_ n1_; (try clear hb); (try clear hb2); (try clear hk); (try clear hi))))
   (try simp only [Act.put, List.setIfInBounds_toArray, List.set_cons_zero, List.set_cons_succ])
   obtain ⟨mx, hmx⟩ : ∃ m_ : ByteArray, a0.extract 0 ((ji3) : Int).toNat = m_ := ⟨_, rfl⟩
   try simp only [hmx]
   try simp only [hmx] at HC7
   go_cut [58] (fun v58 wc => ∃ (kq : Nat) (x58_6 : Bool), v58 = .bool x58_6 ∧ Aside0 (turndownlaw06_CodeReads.j0 kq mx a1_0 a1_1 t296 t297 t298 x58_6 = some r) ∧ Aside0 (kq ≤ k) ∧ Aside0 (wc.heap[gb295]? = some (.cells #[.int .i64 a1_0, .int .i64 a1_1] 38 (0, 0))) ∧ Aside0 (Below w.heap.size w wc))
   case first =>
    have H := HC7.out
    clear HC7
    by_cases c11 : ((mx.size : Int) % 2) = 1
    ·
     rw [if_pos c11] at H
     have c11b0 : (((mx.size : Int) % 2) == 1) = true := beq_iff_eq.mpr c11
     have c11b1 : (((mx.size : Int) % 2) != 1) = false := bne_eq_false_iff_eq.mpr c11
     clear c11
     (first | rw [c11b0] | (simp only [i64_w, i32_w]; rw [c11b0]) | skip)
     have H' := Aside0.mk H
     clear H
     go_wp2
     repeat (go_quiet (fail); try go_wp2)
     go_meet
     case rel => exact ⟨_, (true), (by first | rfl | (simp; done) | (simp [*]; done)), H', ⟨by first | omega | exact Nat.le_refl _⟩, ⟨by (with_reducible repeat (first | refine blk_drewN ?_ _ | refine blk_drew ?_ | refine blk_alloc ?_ _)); exact BK295.out⟩, ⟨by repeat (first | (with_reducible first | exact HB.out | apply below_alloc | apply pw_below_drewN | apply below_drew1 | refine below_set ?_ GE295.out) | exact HB.out)⟩⟩
    ·
     rw [if_neg c11] at H
     have c11b0 : (((mx.size : Int) % 2) == 1) = false := beq_eq_false_iff_ne.mpr c11
     have c11b1 : (((mx.size : Int) % 2) != 1) = true := bne_iff_ne.mpr c11
     (first | rw [c11b0] | (simp only [i64_w, i32_w]; rw [c11b0]) | skip)
     by_cases c12 : (mx.size : Int) < 6
     ·
      rw [if_pos c12] at H
      have c12b0 : decide ((mx.size : Int) < 6) = true := decide_eq_true c12
      have c12b1 : decide (mx.size < 6) = true := decide_eq_true (by omega)
      clear c12
      have H' := Aside0.mk H
      clear H
      go_wp2
      repeat (go_quiet (fail); try go_wp2)
      go_meet
      case rel => exact ⟨_, (true), (by first | rfl | (simp; done) | (simp [*]; done)), H', ⟨by first | omega | exact Nat.le_refl _⟩, ⟨by (with_reducible repeat (first | refine blk_drewN ?_ _ | refine blk_drew ?_ | refine blk_alloc ?_ _)); exact BK295.out⟩, ⟨by repeat (first | (with_reducible first | exact HB.out | apply below_alloc | apply pw_below_drewN | apply below_drew1 | refine below_set ?_ GE295.out) | exact HB.out)⟩⟩
     ·
      rw [if_neg c12] at H
      have c12b0 : decide ((mx.size : Int) < 6) = false := decide_eq_false c12
      have c12b1 : decide (mx.size < 6) = false := decide_eq_false (by omega)
      clear c12
      by_cases c13 : (mx.size : Int) > 134
      ·
       rw [if_pos c13] at H
       have c13b0 : decide (134 < (mx.size : Int)) = true := decide_eq_true c13
       have c13b1 : decide (134 < mx.size) = true := decide_eq_true (by omega)
       clear c13
       have H' := Aside0.mk H
       clear H
       go_wp2
       repeat (go_quiet (fail); try go_wp2)
       go_meet
       case rel => exact ⟨_, (true), (by first | rfl | (simp; done) | (simp [*]; done)), H', ⟨by first | omega | exact Nat.le_refl _⟩, ⟨by (with_reducible repeat (first | refine blk_drewN ?_ _ | refine blk_drew ?_ | refine blk_alloc ?_ _)); exact BK295.out⟩, ⟨by repeat (first | (with_reducible first | exact HB.out | apply below_alloc | apply pw_below_drewN | apply below_drew1 | refine below_set ?_ GE295.out) | exact HB.out)⟩⟩
      ·
       rw [if_neg c13] at H
       have c13b0 : decide (134 < (mx.size : Int)) = false := decide_eq_false c13
       have c13b1 : decide (134 < mx.size) = false := decide_eq_false (by omega)
       clear c13
       replace H := Option.bind_eq_some_iff.mp H
       obtain ⟨t299, A140, H⟩ := H
       replace H : (if t299 = true then ((turndownref06_Tap.f a1_0).bind fun t300 => (if t300 = true then ((turndownref06_Tap.f a1_1).bind fun t301 => (turndownlaw06_CodeReads.j0 k mx a1_0 a1_1 t296 t297 t298 (!t301))) else (turndownlaw06_CodeReads.j0 k mx a1_0 a1_1 t296 t297 t298 true))) else (turndownlaw06_CodeReads.j0 k mx a1_0 a1_1 t296 t297 t298 true)) = some r := H
       have A14 := Aside0.mk A140
       clear A140
       by_cases c15 : t299 = true
       ·
        subst c15
        have H1 : ((turndownref06_Tap.f a1_0).bind fun t300 => (if t300 = true then ((turndownref06_Tap.f a1_1).bind fun t301 => (turndownlaw06_CodeReads.j0 k mx a1_0 a1_1 t296 t297 t298 (!t301))) else (turndownlaw06_CodeReads.j0 k mx a1_0 a1_1 t296 t297 t298 true))) = some r := by rw [if_pos rfl] at H; exact H
        clear H
        have H := H1
        clear H1
        replace H := Option.bind_eq_some_iff.mp H
        obtain ⟨t300, A160, H⟩ := H
        replace H : (if t300 = true then ((turndownref06_Tap.f a1_1).bind fun t301 => (turndownlaw06_CodeReads.j0 k mx a1_0 a1_1 t296 t297 t298 (!t301))) else (turndownlaw06_CodeReads.j0 k mx a1_0 a1_1 t296 t297 t298 true)) = some r := H
        have A16 := Aside0.mk A160
        clear A160
        by_cases c17 : t300 = true
        ·
         subst c17
         have H1 : ((turndownref06_Tap.f a1_1).bind fun t301 => (turndownlaw06_CodeReads.j0 k mx a1_0 a1_1 t296 t297 t298 (!t301))) = some r := by rw [if_pos rfl] at H; exact H
         clear H
         have H := H1
         clear H1
         replace H := Option.bind_eq_some_iff.mp H
         obtain ⟨t301, A180, H⟩ := H
         replace H : (turndownlaw06_CodeReads.j0 k mx a1_0 a1_1 t296 t297 t298 (!t301)) = some r := H
         have A18 := Aside0.mk A180
         clear A180
         have H' := Aside0.mk H
         clear H
         go_wp2_with (first | (go_at_call 31; (with_reducible refine (turndownref06_Bits.calls k mx true _ A14.out).mono ?_); rintro e w' ⟨rfl, ⟨nd, rfl⟩⟩; (try first | exact ⟨rfl, _, World.drewN_drewN _ _ _⟩ | exact ⟨rfl, _, Eq.trans (World.drewN_drewN _ _ _) (congrArg (World.drewN _) (Nat.add_assoc _ _ _))⟩)) | (go_at_call 32; (with_reducible refine (turndownref06_Tap.calls a1_0 true _ A16.out).mono ?_); rintro e w' ⟨rfl, ⟨nd, rfl⟩⟩; (try first | exact ⟨rfl, _, World.drewN_drewN _ _ _⟩ | exact ⟨rfl, _, Eq.trans (World.drewN_drewN _ _ _) (congrArg (World.drewN _) (Nat.add_assoc _ _ _))⟩)) | (go_at_call 32; (with_reducible refine (turndownref06_Tap.calls a1_1 t301 _ A18.out).mono ?_); rintro e w' ⟨rfl, ⟨nd, rfl⟩⟩; (try first | exact ⟨rfl, _, World.drewN_drewN _ _ _⟩ | exact ⟨rfl, _, Eq.trans (World.drewN_drewN _ _ _) (congrArg (World.drewN _) (Nat.add_assoc _ _ _))⟩)))
         repeat (go_quiet (first | (go_at_call 31; (with_reducible refine (turndownref06_Bits.calls k mx true _ A14.out).mono ?_); rintro e w' ⟨rfl, ⟨nd, rfl⟩⟩; (try first | exact ⟨rfl, _, World.drewN_drewN _ _ _⟩ | exact ⟨rfl, _, Eq.trans (World.drewN_drewN _ _ _) (congrArg (World.drewN _) (Nat.add_assoc _ _ _))⟩)) | (go_at_call 32; (with_reducible refine (turndownref06_Tap.calls a1_0 true _ A16.out).mono ?_); rintro e w' ⟨rfl, ⟨nd, rfl⟩⟩; (try first | exact ⟨rfl, _, World.drewN_drewN _ _ _⟩ | exact ⟨rfl, _, Eq.trans (World.drewN_drewN _ _ _) (congrArg (World.drewN _) (Nat.add_assoc _ _ _))⟩)) | (go_at_call 32; (with_reducible refine (turndownref06_Tap.calls a1_1 t301 _ A18.out).mono ?_); rintro e w' ⟨rfl, ⟨nd, rfl⟩⟩; (try first | exact ⟨rfl, _, World.drewN_drewN _ _ _⟩ | exact ⟨rfl, _, Eq.trans (World.drewN_drewN _ _ _) (congrArg (World.drewN _) (Nat.add_assoc _ _ _))⟩))); try go_wp2_with (first | (go_at_call 31; (with_reducible refine (turndownref06_Bits.calls k mx true _ A14.out).mono ?_); rintro e w' ⟨rfl, ⟨nd, rfl⟩⟩; (try first | exact ⟨rfl, _, World.drewN_drewN _ _ _⟩ | exact ⟨rfl, _, Eq.trans (World.drewN_drewN _ _ _) (congrArg (World.drewN _) (Nat.add_assoc _ _ _))⟩)) | (go_at_call 32; (with_reducible refine (turndownref06_Tap.calls a1_0 true _ A16.out).mono ?_); rintro e w' ⟨rfl, ⟨nd, rfl⟩⟩; (try first | exact ⟨rfl, _, World.drewN_drewN _ _ _⟩ | exact ⟨rfl, _, Eq.trans (World.drewN_drewN _ _ _) (congrArg (World.drewN _) (Nat.add_assoc _ _ _))⟩)) | (go_at_call 32; (with_reducible refine (turndownref06_Tap.calls a1_1 t301 _ A18.out).mono ?_); rintro e w' ⟨rfl, ⟨nd, rfl⟩⟩; (try first | exact ⟨rfl, _, World.drewN_drewN _ _ _⟩ | exact ⟨rfl, _, Eq.trans (World.drewN_drewN _ _ _) (congrArg (World.drewN _) (Nat.add_assoc _ _ _))⟩))))
         go_meet
         case rel => exact ⟨_, (!t301), (by first | rfl | (simp; done) | (simp [*]; done)), H', ⟨by first | omega | exact Nat.le_refl _⟩, ⟨by (with_reducible repeat (first | refine blk_drewN ?_ _ | refine blk_drew ?_ | refine blk_alloc ?_ _)); exact BK295.out⟩, ⟨by repeat (first | (with_reducible first | exact HB.out | apply below_alloc | apply pw_below_drewN | apply below_drew1 | refine below_set ?_ GE295.out) | exact HB.out)⟩⟩
        ·
         replace c17 := Bool.eq_false_iff.mpr c17
         subst c17
         have H1 : (turndownlaw06_CodeReads.j0 k mx a1_0 a1_1 t296 t297 t298 true) = some r := by rw [if_neg (show ¬ (false = true) by decide)] at H; exact H
         clear H
         have H := H1
         clear H1
         have H' := Aside0.mk H
         clear H
         go_wp2_with (first | (go_at_call 31; (with_reducible refine (turndownref06_Bits.calls k mx true _ A14.out).mono ?_); rintro e w' ⟨rfl, ⟨nd, rfl⟩⟩; (try first | exact ⟨rfl, _, World.drewN_drewN _ _ _⟩ | exact ⟨rfl, _, Eq.trans (World.drewN_drewN _ _ _) (congrArg (World.drewN _) (Nat.add_assoc _ _ _))⟩)) | (go_at_call 32; (with_reducible refine (turndownref06_Tap.calls a1_0 false _ A16.out).mono ?_); rintro e w' ⟨rfl, ⟨nd, rfl⟩⟩; (try first | exact ⟨rfl, _, World.drewN_drewN _ _ _⟩ | exact ⟨rfl, _, Eq.trans (World.drewN_drewN _ _ _) (congrArg (World.drewN _) (Nat.add_assoc _ _ _))⟩)))
         repeat (go_quiet (first | (go_at_call 31; (with_reducible refine (turndownref06_Bits.calls k mx true _ A14.out).mono ?_); rintro e w' ⟨rfl, ⟨nd, rfl⟩⟩; (try first | exact ⟨rfl, _, World.drewN_drewN _ _ _⟩ | exact ⟨rfl, _, Eq.trans (World.drewN_drewN _ _ _) (congrArg (World.drewN _) (Nat.add_assoc _ _ _))⟩)) | (go_at_call 32; (with_reducible refine (turndownref06_Tap.calls a1_0 false _ A16.out).mono ?_); rintro e w' ⟨rfl, ⟨nd, rfl⟩⟩; (try first | exact ⟨rfl, _, World.drewN_drewN _ _ _⟩ | exact ⟨rfl, _, Eq.trans (World.drewN_drewN _ _ _) (congrArg (World.drewN _) (Nat.add_assoc _ _ _))⟩))); try go_wp2_with (first | (go_at_call 31; (with_reducible refine (turndownref06_Bits.calls k mx true _ A14.out).mono ?_); rintro e w' ⟨rfl, ⟨nd, rfl⟩⟩; (try first | exact ⟨rfl, _, World.drewN_drewN _ _ _⟩ | exact ⟨rfl, _, Eq.trans (World.drewN_drewN _ _ _) (congrArg (World.drewN _) (Nat.add_assoc _ _ _))⟩)) | (go_at_call 32; (with_reducible refine (turndownref06_Tap.calls a1_0 false _ A16.out).mono ?_); rintro e w' ⟨rfl, ⟨nd, rfl⟩⟩; (try first | exact ⟨rfl, _, World.drewN_drewN _ _ _⟩ | exact ⟨rfl, _, Eq.trans (World.drewN_drewN _ _ _) (congrArg (World.drewN _) (Nat.add_assoc _ _ _))⟩))))
         go_meet
         case rel => exact ⟨_, (true), (by first | rfl | (simp; done) | (simp [*]; done)), H', ⟨by first | omega | exact Nat.le_refl _⟩, ⟨by (with_reducible repeat (first | refine blk_drewN ?_ _ | refine blk_drew ?_ | refine blk_alloc ?_ _)); exact BK295.out⟩, ⟨by repeat (first | (with_reducible first | exact HB.out | apply below_alloc | apply pw_below_drewN | apply below_drew1 | refine below_set ?_ GE295.out) | exact HB.out)⟩⟩
       ·
        replace c15 := Bool.eq_false_iff.mpr c15
        subst c15
        have H1 : (turndownlaw06_CodeReads.j0 k mx a1_0 a1_1 t296 t297 t298 true) = some r := by rw [if_neg (show ¬ (false = true) by decide)] at H; exact H
        clear H
        have H := H1
        clear H1
        have H' := Aside0.mk H
        clear H
        go_wp2_with (first | (go_at_call 31; (with_reducible refine (turndownref06_Bits.calls k mx false _ A14.out).mono ?_); rintro e w' ⟨rfl, ⟨nd, rfl⟩⟩; (try first | exact ⟨rfl, _, World.drewN_drewN _ _ _⟩ | exact ⟨rfl, _, Eq.trans (World.drewN_drewN _ _ _) (congrArg (World.drewN _) (Nat.add_assoc _ _ _))⟩)))
        repeat (go_quiet (first | (go_at_call 31; (with_reducible refine (turndownref06_Bits.calls k mx false _ A14.out).mono ?_); rintro e w' ⟨rfl, ⟨nd, rfl⟩⟩; (try first | exact ⟨rfl, _, World.drewN_drewN _ _ _⟩ | exact ⟨rfl, _, Eq.trans (World.drewN_drewN _ _ _) (congrArg (World.drewN _) (Nat.add_assoc _ _ _))⟩))); try go_wp2_with (first | (go_at_call 31; (with_reducible refine (turndownref06_Bits.calls k mx false _ A14.out).mono ?_); rintro e w' ⟨rfl, ⟨nd, rfl⟩⟩; (try first | exact ⟨rfl, _, World.drewN_drewN _ _ _⟩ | exact ⟨rfl, _, Eq.trans (World.drewN_drewN _ _ _) (congrArg (World.drewN _) (Nat.add_assoc _ _ _))⟩))))
        go_meet
        case rel => exact ⟨_, (true), (by first | rfl | (simp; done) | (simp [*]; done)), H', ⟨by first | omega | exact Nat.le_refl _⟩, ⟨by (with_reducible repeat (first | refine blk_drewN ?_ _ | refine blk_drew ?_ | refine blk_alloc ?_ _)); exact BK295.out⟩, ⟨by repeat (first | (with_reducible first | exact HB.out | apply below_alloc | apply pw_below_drewN | apply below_drew1 | refine below_set ?_ GE295.out) | exact HB.out)⟩⟩
   case rest =>
    clear HC7
    try clear c1
    try clear p2
    try clear c4
    try clear c4b0
    try clear c4b1
    try clear c5
    try clear c5b0
    try clear c5b1
    try clear c6
    try clear c11
    try clear c11b0
    try clear c11b1
    try clear c12
    try clear c12b0
    try clear c12b1
    try clear c13
    try clear c13b0
    try clear c13b1
    try clear c15
    try clear c17
    try clear hcz9_0
    try clear hcz9_1
    try clear hfz9_0
    try clear hfz9_1
    obtain ⟨kq, x58_6, rfl, HA, HJ6, BK295, HB⟩ := hcut
    cases kq with
    | zero => exact absurd HA.out (by simp [turndownlaw06_CodeReads.j0])
    | succ kj6 =>
     have H := HA.out
     clear HA
     simp only [turndownlaw06_CodeReads.j0] at H
     by_cases c19 : x58_6 = true
     ·
      subst c19
      have H1 : (if t296.toList = ([] : List UInt8) then (if t297 = 0 then (if t298 = 2 then ((turndownlaw06_awake.f kj6).bind fun t302 => (some t302)) else (some false)) else (some false)) else (some false)) = some r := by rw [if_pos rfl] at H; exact H
      clear H
      have H := H1
      clear H1
      by_cases c20 : t296.toList = ([] : List UInt8)
      ·
       rw [if_pos c20] at H
       have c20b0 : (t296.toList == ([] : List UInt8)) = true := beq_iff_eq.mpr c20
       have c20b1 : (t296.toList != ([] : List UInt8)) = false := bne_eq_false_iff_eq.mpr c20
       clear c20
       by_cases c21 : t297 = 0
       ·
        rw [if_pos c21] at H
        have c21b0 : (t297 == 0) = true := beq_iff_eq.mpr c21
        have c21b1 : (t297 != 0) = false := bne_eq_false_iff_eq.mpr c21
        clear c21
        by_cases c22 : t298 = 2
        ·
         rw [if_pos c22] at H
         have c22b0 : (t298 == 2) = true := beq_iff_eq.mpr c22
         have c22b1 : (t298 != 2) = false := bne_eq_false_iff_eq.mpr c22
         clear c22
         replace H := Option.bind_eq_some_iff.mp H
         obtain ⟨t302, A230, H⟩ := H
         replace H : (some t302) = some r := H
         have A23 := Aside0.mk A230
         clear A230
         obtain rfl := Option.some.inj H
         go_wp2_with (first | (go_at_call 22; (with_reducible refine (turndownlaw06_awake.calls kj6  t302 _ A23.out).mono ?_); rintro e w24 ⟨rfl, hb⟩; have n0_ := Aside0.mk (blk_below (g := gb295) (o := .cells #[.int .i64 a1_0, .int .i64 a1_1] 38 (0, 0)) (by (with_reducible repeat (first | refine blk_drewN ?_ _ | refine blk_drew ?_ | refine blk_alloc ?_ _)); exact BK295.out) hb); have n1_ := Aside0.mk (below_step (by repeat (first | (with_reducible first | exact HB.out | apply below_alloc | apply pw_below_drewN | apply below_drew1 | refine below_set ?_ GE295.out) | exact HB.out)) hb); clear BK295; clear HB; have BK295 := n0_; have HB := n1_; clear n0_ n1_; (try clear hb); (try clear hb2); (try clear hk); (try clear hi)))
         repeat (go_quiet (first | (go_at_call 22; (with_reducible refine (turndownlaw06_awake.calls kj6  t302 _ A23.out).mono ?_); rintro e w24 ⟨rfl, hb⟩; have n0_ := Aside0.mk (blk_below (g := gb295) (o := .cells #[.int .i64 a1_0, .int .i64 a1_1] 38 (0, 0)) (by (with_reducible repeat (first | refine blk_drewN ?_ _ | refine blk_drew ?_ | refine blk_alloc ?_ _)); exact BK295.out) hb); have n1_ := Aside0.mk (below_step (by repeat (first | (with_reducible first | exact HB.out | apply below_alloc | apply pw_below_drewN | apply below_drew1 | refine below_set ?_ GE295.out) | exact HB.out)) hb); clear BK295; clear HB; have BK295 := n0_; have HB := n1_; clear n0_ n1_; (try clear hb); (try clear hb2); (try clear hk); (try clear hi))); try go_wp2_with (first | (go_at_call 22; (with_reducible refine (turndownlaw06_awake.calls kj6  t302 _ A23.out).mono ?_); rintro e w24 ⟨rfl, hb⟩; have n0_ := Aside0.mk (blk_below (g := gb295) (o := .cells #[.int .i64 a1_0, .int .i64 a1_1] 38 (0, 0)) (by (with_reducible repeat (first | refine blk_drewN ?_ _ | refine blk_drew ?_ | refine blk_alloc ?_ _)); exact BK295.out) hb); have n1_ := Aside0.mk (below_step (by repeat (first | (with_reducible first | exact HB.out | apply below_alloc | apply pw_below_drewN | apply below_drew1 | refine below_set ?_ GE295.out) | exact HB.out)) hb); clear BK295; clear HB; have BK295 := n0_; have HB := n1_; clear n0_ n1_; (try clear hb); (try clear hb2); (try clear hk); (try clear hi))))
         go_ret
         exact ⟨by first | rfl | (simp [errW_none, errW_some] <;> rfl) | (simp only [← hji3]; first | rfl | (simp [errW_none, errW_some] <;> rfl)) | (simp [*, errW_none, errW_some] <;> rfl), by repeat (first | (with_reducible first | exact HB.out | apply below_alloc | apply pw_below_drewN | apply below_drew1 | refine below_set ?_ GE295.out) | exact HB.out)⟩
        ·
         rw [if_neg c22] at H
         have c22b0 : (t298 == 2) = false := beq_eq_false_iff_ne.mpr c22
         have c22b1 : (t298 != 2) = true := bne_iff_ne.mpr c22
         obtain rfl := Option.some.inj H
         go_wp2
         repeat (go_quiet (fail); try go_wp2)
         go_ret
         exact ⟨by first | rfl | (simp [errW_none, errW_some] <;> rfl) | (simp only [← hji3]; first | rfl | (simp [errW_none, errW_some] <;> rfl)) | (simp [*, errW_none, errW_some] <;> rfl), by repeat (first | (with_reducible first | exact HB.out | apply below_alloc | apply pw_below_drewN | apply below_drew1 | refine below_set ?_ GE295.out) | exact HB.out)⟩
       ·
        rw [if_neg c21] at H
        have c21b0 : (t297 == 0) = false := beq_eq_false_iff_ne.mpr c21
        have c21b1 : (t297 != 0) = true := bne_iff_ne.mpr c21
        obtain rfl := Option.some.inj H
        go_wp2
        repeat (go_quiet (fail); try go_wp2)
        go_ret
        exact ⟨by first | rfl | (simp [errW_none, errW_some] <;> rfl) | (simp only [← hji3]; first | rfl | (simp [errW_none, errW_some] <;> rfl)) | (simp [*, errW_none, errW_some] <;> rfl), by repeat (first | (with_reducible first | exact HB.out | apply below_alloc | apply pw_below_drewN | apply below_drew1 | refine below_set ?_ GE295.out) | exact HB.out)⟩
      ·
       rw [if_neg c20] at H
       have c20b0 : (t296.toList == ([] : List UInt8)) = false := beq_eq_false_iff_ne.mpr c20
       have c20b1 : (t296.toList != ([] : List UInt8)) = true := bne_iff_ne.mpr c20
       obtain rfl := Option.some.inj H
       go_wp2
       repeat (go_quiet (fail); try go_wp2)
       go_ret
       exact ⟨by first | rfl | (simp [errW_none, errW_some] <;> rfl) | (simp only [← hji3]; first | rfl | (simp [errW_none, errW_some] <;> rfl)) | (simp [*, errW_none, errW_some] <;> rfl), by repeat (first | (with_reducible first | exact HB.out | apply below_alloc | apply pw_below_drewN | apply below_drew1 | refine below_set ?_ GE295.out) | exact HB.out)⟩
     ·
      replace c19 := Bool.eq_false_iff.mpr c19
      subst c19
      have H1 : ((turndownref06_Read.f mx a1_0 a1_1).bind fun bt303 => (if t296.toList = bt303.1.toList then (if t297 = bt303.2 then (if t298 = 0 then ((turndownlaw06_awake.f kj6).bind fun t305 => (some t305)) else (some false)) else (some false)) else (some false))) = some r := by rw [if_neg (show ¬ (false = true) by decide)] at H; exact H
      clear H
      have H := H1
      clear H1
      replace H := Option.bind_eq_some_iff.mp H
      obtain ⟨⟨t303, t304⟩, A250, H⟩ := H
      replace H : (if t296.toList = t303.toList then (if t297 = t304 then (if t298 = 0 then ((turndownlaw06_awake.f kj6).bind fun t305 => (some t305)) else (some false)) else (some false)) else (some false)) = some r := H
      have A25 := Aside0.mk A250
      clear A250
      by_cases c26 : t296.toList = t303.toList
      ·
       rw [if_pos c26] at H
       have c26b0 : (t296.toList == t303.toList) = true := beq_iff_eq.mpr c26
       have c26b1 : (t296.toList != t303.toList) = false := bne_eq_false_iff_eq.mpr c26
       clear c26
       by_cases c27 : t297 = t304
       ·
        rw [if_pos c27] at H
        have c27b0 : (t297 == t304) = true := beq_iff_eq.mpr c27
        have c27b1 : (t297 != t304) = false := bne_eq_false_iff_eq.mpr c27
        clear c27
        by_cases c28 : t298 = 0
        ·
         rw [if_pos c28] at H
         have c28b0 : (t298 == 0) = true := beq_iff_eq.mpr c28
         have c28b1 : (t298 != 0) = false := bne_eq_false_iff_eq.mpr c28
         clear c28
         replace H := Option.bind_eq_some_iff.mp H
         obtain ⟨t305, A290, H⟩ := H
         replace H : (some t305) = some r := H
         have A29 := Aside0.mk A290
         clear A290
         obtain rfl := Option.some.inj H
         go_wp2_with (first | (go_at_call 35; (with_reducible refine (turndownref06_Read.calls mx a1_0 a1_1 t303 t304 _ A25.out).mono ?_); rintro e w30 ⟨rfl, hb⟩; have n0_ := Aside0.mk (blk_below (g := gb295) (o := .cells #[.int .i64 a1_0, .int .i64 a1_1] 38 (0, 0)) (by (with_reducible repeat (first | refine blk_drewN ?_ _ | refine blk_drew ?_ | refine blk_alloc ?_ _)); exact BK295.out) hb); have n1_ := Aside0.mk (below_step (by repeat (first | (with_reducible first | exact HB.out | apply below_alloc | apply pw_below_drewN | apply below_drew1 | refine below_set ?_ GE295.out) | exact HB.out)) hb); clear BK295; clear HB; have BK295 := n0_; have HB := n1_; clear n0_ n1_; (try clear hb); (try clear hb2); (try clear hk); (try clear hi)) | (go_at_call 22; (with_reducible refine (turndownlaw06_awake.calls kj6  t305 _ A29.out).mono ?_); rintro e w31 ⟨rfl, hb⟩; have n0_ := Aside0.mk (blk_below (g := gb295) (o := .cells #[.int .i64 a1_0, .int .i64 a1_1] 38 (0, 0)) (by (with_reducible repeat (first | refine blk_drewN ?_ _ | refine blk_drew ?_ | refine blk_alloc ?_ _)); exact BK295.out) hb); have n1_ := Aside0.mk (below_step (by repeat (first | (with_reducible first | exact HB.out | apply below_alloc | apply pw_below_drewN | apply below_drew1 | refine below_set ?_ GE295.out) | exact HB.out)) hb); clear BK295; clear HB; have BK295 := n0_; have HB := n1_; clear n0_ n1_; (try clear hb); (try clear hb2); (try clear hk); (try clear hi)))
         repeat (go_quiet (first | (go_at_call 35; (with_reducible refine (turndownref06_Read.calls mx a1_0 a1_1 t303 t304 _ A25.out).mono ?_); rintro e w30 ⟨rfl, hb⟩; have n0_ := Aside0.mk (blk_below (g := gb295) (o := .cells #[.int .i64 a1_0, .int .i64 a1_1] 38 (0, 0)) (by (with_reducible repeat (first | refine blk_drewN ?_ _ | refine blk_drew ?_ | refine blk_alloc ?_ _)); exact BK295.out) hb); have n1_ := Aside0.mk (below_step (by repeat (first | (with_reducible first | exact HB.out | apply below_alloc | apply pw_below_drewN | apply below_drew1 | refine below_set ?_ GE295.out) | exact HB.out)) hb); clear BK295; clear HB; have BK295 := n0_; have HB := n1_; clear n0_ n1_; (try clear hb); (try clear hb2); (try clear hk); (try clear hi)) | (go_at_call 22; (with_reducible refine (turndownlaw06_awake.calls kj6  t305 _ A29.out).mono ?_); rintro e w31 ⟨rfl, hb⟩; have n0_ := Aside0.mk (blk_below (g := gb295) (o := .cells #[.int .i64 a1_0, .int .i64 a1_1] 38 (0, 0)) (by (with_reducible repeat (first | refine blk_drewN ?_ _ | refine blk_drew ?_ | refine blk_alloc ?_ _)); exact BK295.out) hb); have n1_ := Aside0.mk (below_step (by repeat (first | (with_reducible first | exact HB.out | apply below_alloc | apply pw_below_drewN | apply below_drew1 | refine below_set ?_ GE295.out) | exact HB.out)) hb); clear BK295; clear HB; have BK295 := n0_; have HB := n1_; clear n0_ n1_; (try clear hb); (try clear hb2); (try clear hk); (try clear hi))); try go_wp2_with (first | (go_at_call 35; (with_reducible refine (turndownref06_Read.calls mx a1_0 a1_1 t303 t304 _ A25.out).mono ?_); rintro e w30 ⟨rfl, hb⟩; have n0_ := Aside0.mk (blk_below (g := gb295) (o := .cells #[.int .i64 a1_0, .int .i64 a1_1] 38 (0, 0)) (by (with_reducible repeat (first | refine blk_drewN ?_ _ | refine blk_drew ?_ | refine blk_alloc ?_ _)); exact BK295.out) hb); have n1_ := Aside0.mk (below_step (by repeat (first | (with_reducible first | exact HB.out | apply below_alloc | apply pw_below_drewN | apply below_drew1 | refine below_set ?_ GE295.out) | exact HB.out)) hb); clear BK295; clear HB; have BK295 := n0_; have HB := n1_; clear n0_ n1_; (try clear hb); (try clear hb2); (try clear hk); (try clear hi)) | (go_at_call 22; (with_reducible refine (turndownlaw06_awake.calls kj6  t305 _ A29.out).mono ?_); rintro e w31 ⟨rfl, hb⟩; have n0_ := Aside0.mk (blk_below (g := gb295) (o := .cells #[.int .i64 a1_0, .int .i64 a1_1] 38 (0, 0)) (by (with_reducible repeat (first | refine blk_drewN ?_ _ | refine blk_drew ?_ | refine blk_alloc ?_ _)); exact BK295.out) hb); have n1_ := Aside0.mk (below_step (by repeat (first | (with_reducible first | exact HB.out | apply below_alloc | apply pw_below_drewN | apply below_drew1 | refine below_set ?_ GE295.out) | exact HB.out)) hb); clear BK295; clear HB; have BK295 := n0_; have HB := n1_; clear n0_ n1_; (try clear hb); (try clear hb2); (try clear hk); (try clear hi))))
         go_ret
         exact ⟨by first | rfl | (simp [errW_none, errW_some] <;> rfl) | (simp only [← hji3]; first | rfl | (simp [errW_none, errW_some] <;> rfl)) | (simp [*, errW_none, errW_some] <;> rfl), by repeat (first | (with_reducible first | exact HB.out | apply below_alloc | apply pw_below_drewN | apply below_drew1 | refine below_set ?_ GE295.out) | exact HB.out)⟩
        ·
         rw [if_neg c28] at H
         have c28b0 : (t298 == 0) = false := beq_eq_false_iff_ne.mpr c28
         have c28b1 : (t298 != 0) = true := bne_iff_ne.mpr c28
         obtain rfl := Option.some.inj H
         go_wp2_with (first | (go_at_call 35; (with_reducible refine (turndownref06_Read.calls mx a1_0 a1_1 t303 t304 _ A25.out).mono ?_); rintro e w32 ⟨rfl, hb⟩; have n0_ := Aside0.mk (blk_below (g := gb295) (o := .cells #[.int .i64 a1_0, .int .i64 a1_1] 38 (0, 0)) (by (with_reducible repeat (first | refine blk_drewN ?_ _ | refine blk_drew ?_ | refine blk_alloc ?_ _)); exact BK295.out) hb); have n1_ := Aside0.mk (below_step (by repeat (first | (with_reducible first | exact HB.out | apply below_alloc | apply pw_below_drewN | apply below_drew1 | refine below_set ?_ GE295.out) | exact HB.out)) hb); clear BK295; clear HB; have BK295 := n0_; have HB := n1_; clear n0_ n1_; (try clear hb); (try clear hb2); (try clear hk); (try clear hi)))
         repeat (go_quiet (first | (go_at_call 35; (with_reducible refine (turndownref06_Read.calls mx a1_0 a1_1 t303 t304 _ A25.out).mono ?_); rintro e w32 ⟨rfl, hb⟩; have n0_ := Aside0.mk (blk_below (g := gb295) (o := .cells #[.int .i64 a1_0, .int .i64 a1_1] 38 (0, 0)) (by (with_reducible repeat (first | refine blk_drewN ?_ _ | refine blk_drew ?_ | refine blk_alloc ?_ _)); exact BK295.out) hb); have n1_ := Aside0.mk (below_step (by repeat (first | (with_reducible first | exact HB.out | apply below_alloc | apply pw_below_drewN | apply below_drew1 | refine below_set ?_ GE295.out) | exact HB.out)) hb); clear BK295; clear HB; have BK295 := n0_; have HB := n1_; clear n0_ n1_; (try clear hb); (try clear hb2); (try clear hk); (try clear hi))); try go_wp2_with (first | (go_at_call 35; (with_reducible refine (turndownref06_Read.calls mx a1_0 a1_1 t303 t304 _ A25.out).mono ?_); rintro e w32 ⟨rfl, hb⟩; have n0_ := Aside0.mk (blk_below (g := gb295) (o := .cells #[.int .i64 a1_0, .int .i64 a1_1] 38 (0, 0)) (by (with_reducible repeat (first | refine blk_drewN ?_ _ | refine blk_drew ?_ | refine blk_alloc ?_ _)); exact BK295.out) hb); have n1_ := Aside0.mk (below_step (by repeat (first | (with_reducible first | exact HB.out | apply below_alloc | apply pw_below_drewN | apply below_drew1 | refine below_set ?_ GE295.out) | exact HB.out)) hb); clear BK295; clear HB; have BK295 := n0_; have HB := n1_; clear n0_ n1_; (try clear hb); (try clear hb2); (try clear hk); (try clear hi))))
         go_ret
         exact ⟨by first | rfl | (simp [errW_none, errW_some] <;> rfl) | (simp only [← hji3]; first | rfl | (simp [errW_none, errW_some] <;> rfl)) | (simp [*, errW_none, errW_some] <;> rfl), by repeat (first | (with_reducible first | exact HB.out | apply below_alloc | apply pw_below_drewN | apply below_drew1 | refine below_set ?_ GE295.out) | exact HB.out)⟩
       ·
        rw [if_neg c27] at H
        have c27b0 : (t297 == t304) = false := beq_eq_false_iff_ne.mpr c27
        have c27b1 : (t297 != t304) = true := bne_iff_ne.mpr c27
        obtain rfl := Option.some.inj H
        go_wp2_with (first | (go_at_call 35; (with_reducible refine (turndownref06_Read.calls mx a1_0 a1_1 t303 t304 _ A25.out).mono ?_); rintro e w33 ⟨rfl, hb⟩; have n0_ := Aside0.mk (blk_below (g := gb295) (o := .cells #[.int .i64 a1_0, .int .i64 a1_1] 38 (0, 0)) (by (with_reducible repeat (first | refine blk_drewN ?_ _ | refine blk_drew ?_ | refine blk_alloc ?_ _)); exact BK295.out) hb); have n1_ := Aside0.mk (below_step (by repeat (first | (with_reducible first | exact HB.out | apply below_alloc | apply pw_below_drewN | apply below_drew1 | refine below_set ?_ GE295.out) | exact HB.out)) hb); clear BK295; clear HB; have BK295 := n0_; have HB := n1_; clear n0_ n1_; (try clear hb); (try clear hb2); (try clear hk); (try clear hi)))
        repeat (go_quiet (first | (go_at_call 35; (with_reducible refine (turndownref06_Read.calls mx a1_0 a1_1 t303 t304 _ A25.out).mono ?_); rintro e w33 ⟨rfl, hb⟩; have n0_ := Aside0.mk (blk_below (g := gb295) (o := .cells #[.int .i64 a1_0, .int .i64 a1_1] 38 (0, 0)) (by (with_reducible repeat (first | refine blk_drewN ?_ _ | refine blk_drew ?_ | refine blk_alloc ?_ _)); exact BK295.out) hb); have n1_ := Aside0.mk (below_step (by repeat (first | (with_reducible first | exact HB.out | apply below_alloc | apply pw_below_drewN | apply below_drew1 | refine below_set ?_ GE295.out) | exact HB.out)) hb); clear BK295; clear HB; have BK295 := n0_; have HB := n1_; clear n0_ n1_; (try clear hb); (try clear hb2); (try clear hk); (try clear hi))); try go_wp2_with (first | (go_at_call 35; (with_reducible refine (turndownref06_Read.calls mx a1_0 a1_1 t303 t304 _ A25.out).mono ?_); rintro e w33 ⟨rfl, hb⟩; have n0_ := Aside0.mk (blk_below (g := gb295) (o := .cells #[.int .i64 a1_0, .int .i64 a1_1] 38 (0, 0)) (by (with_reducible repeat (first | refine blk_drewN ?_ _ | refine blk_drew ?_ | refine blk_alloc ?_ _)); exact BK295.out) hb); have n1_ := Aside0.mk (below_step (by repeat (first | (with_reducible first | exact HB.out | apply below_alloc | apply pw_below_drewN | apply below_drew1 | refine below_set ?_ GE295.out) | exact HB.out)) hb); clear BK295; clear HB; have BK295 := n0_; have HB := n1_; clear n0_ n1_; (try clear hb); (try clear hb2); (try clear hk); (try clear hi))))
        go_ret
        exact ⟨by first | rfl | (simp [errW_none, errW_some] <;> rfl) | (simp only [← hji3]; first | rfl | (simp [errW_none, errW_some] <;> rfl)) | (simp [*, errW_none, errW_some] <;> rfl), by repeat (first | (with_reducible first | exact HB.out | apply below_alloc | apply pw_below_drewN | apply below_drew1 | refine below_set ?_ GE295.out) | exact HB.out)⟩
      ·
       rw [if_neg c26] at H
       have c26b0 : (t296.toList == t303.toList) = false := beq_eq_false_iff_ne.mpr c26
       have c26b1 : (t296.toList != t303.toList) = true := bne_iff_ne.mpr c26
       obtain rfl := Option.some.inj H
       go_wp2_with (first | (go_at_call 35; (with_reducible refine (turndownref06_Read.calls mx a1_0 a1_1 t303 t304 _ A25.out).mono ?_); rintro e w34 ⟨rfl, hb⟩; have n0_ := Aside0.mk (blk_below (g := gb295) (o := .cells #[.int .i64 a1_0, .int .i64 a1_1] 38 (0, 0)) (by (with_reducible repeat (first | refine blk_drewN ?_ _ | refine blk_drew ?_ | refine blk_alloc ?_ _)); exact BK295.out) hb); have n1_ := Aside0.mk (below_step (by repeat (first | (with_reducible first | exact HB.out | apply below_alloc | apply pw_below_drewN | apply below_drew1 | refine below_set ?_ GE295.out) | exact HB.out)) hb); clear BK295; clear HB; have BK295 := n0_; have HB := n1_; clear n0_ n1_; (try clear hb); (try clear hb2); (try clear hk); (try clear hi)))
       repeat (go_quiet (first | (go_at_call 35; (with_reducible refine (turndownref06_Read.calls mx a1_0 a1_1 t303 t304 _ A25.out).mono ?_); rintro e w34 ⟨rfl, hb⟩; have n0_ := Aside0.mk (blk_below (g := gb295) (o := .cells #[.int .i64 a1_0, .int .i64 a1_1] 38 (0, 0)) (by (with_reducible repeat (first | refine blk_drewN ?_ _ | refine blk_drew ?_ | refine blk_alloc ?_ _)); exact BK295.out) hb); have n1_ := Aside0.mk (below_step (by repeat (first | (with_reducible first | exact HB.out | apply below_alloc | apply pw_below_drewN | apply below_drew1 | refine below_set ?_ GE295.out) | exact HB.out)) hb); clear BK295; clear HB; have BK295 := n0_; have HB := n1_; clear n0_ n1_; (try clear hb); (try clear hb2); (try clear hk); (try clear hi))); try go_wp2_with (first | (go_at_call 35; (with_reducible refine (turndownref06_Read.calls mx a1_0 a1_1 t303 t304 _ A25.out).mono ?_); rintro e w34 ⟨rfl, hb⟩; have n0_ := Aside0.mk (blk_below (g := gb295) (o := .cells #[.int .i64 a1_0, .int .i64 a1_1] 38 (0, 0)) (by (with_reducible repeat (first | refine blk_drewN ?_ _ | refine blk_drew ?_ | refine blk_alloc ?_ _)); exact BK295.out) hb); have n1_ := Aside0.mk (below_step (by repeat (first | (with_reducible first | exact HB.out | apply below_alloc | apply pw_below_drewN | apply below_drew1 | refine below_set ?_ GE295.out) | exact HB.out)) hb); clear BK295; clear HB; have BK295 := n0_; have HB := n1_; clear n0_ n1_; (try clear hb); (try clear hb2); (try clear hk); (try clear hi))))
       go_ret
       exact ⟨by first | rfl | (simp [errW_none, errW_some] <;> rfl) | (simp only [← hji3]; first | rfl | (simp [errW_none, errW_some] <;> rfl)) | (simp [*, errW_none, errW_some] <;> rfl), by repeat (first | (with_reducible first | exact HB.out | apply below_alloc | apply pw_below_drewN | apply below_drew1 | refine below_set ?_ GE295.out) | exact HB.out)⟩
  ·
   rw [if_neg c5] at H
   exact absurd H (by simp)
 ·
  rw [if_neg c4] at H
  exact absurd H (by simp)
end Go.Proofs.Ytcpojohpmcnnhaa.PA

set_option linter.unusedVariables false
set_option linter.unusedSimpArgs false
namespace Go.Proofs.Ytcpojohpmcnnhaa.Pure
open Go.RowKit Go.Proofs.Ytcpojohpmcnnhaa.PA Go.Proofs.YtcpojohpmcnnhaaW.PrintWords Go.Proofs.YtcpojohpmcnnhaaW.PrintLast Go.Proofs.Ytcpojohpmcnnhaa.L
theorem no_bytes2 : (⟨#[]⟩ : ByteArray).toList = [] := by
  unfold ByteArray.toList ByteArray.toList.loop
  rw [if_neg (show ¬ 0 < (⟨#[]⟩ : ByteArray).size from Nat.lt_irrefl 0)]; rfl
def goodC (c : ByteArray) (x y : Int) : Bool := decide (c.size % 2 = 0) && decide (6 ≤ c.size) && decide (c.size ≤ 134) && bitsS c && tapB x && tapB y
def readR (c : ByteArray) (x y : Int) : ByteArray × Int × Int := if goodC c x y = true then (readM c x y (c.size / 2), VR x.toNat y.toNat c (c.size / 2) 0 0, 0) else (⟨#[]⟩, 0, 2)
theorem goodC_of {c : ByteArray} {x y : Int} (h : goodC c x y = true) : c.size = 2 * (c.size / 2) ∧ 3 ≤ c.size / 2 ∧ c.size / 2 ≤ 67 ∧ bitsS c = true ∧ (1 ≤ x ∧ x ≤ 15) ∧ 1 ≤ y ∧ y ≤ 15 := by
  unfold goodC tapB at h
  simp only [Bool.and_eq_true, decide_eq_true_eq] at h
  obtain ⟨⟨⟨⟨⟨h1, h2⟩, h3⟩, h4⟩, h5⟩, h6⟩ := h
  exact ⟨by omega, by omega, by omega, h4, h5, h6⟩
theorem read_all (c : ByteArray) (x y : Int) (hz : c.size ≤ 1000) : Ev (fun k => code_Read.f k c x y) (readR c x y) := by
  unfold readR
  by_cases hg : goodC c x y = true
  · rw [if_pos hg]
    obtain ⟨h1, h2, h3, h4, h5, h6⟩ := goodC_of hg
    exact read_ev h1 h2 h3 h4 h5 h6
  · rw [if_neg hg]
    unfold goodC at hg
    unfold code_Read.f
    by_cases h1 : (c.size : Int) % 2 = 0
    · simp only [if_pos h1, within_all, Option.bind_some]
      rw [decide_eq_true (show c.size % 2 = 0 by omega), Bool.true_and] at hg
      by_cases h2 : (decide ((6 : Int) ≤ (c.size : Int)) && decide ((c.size : Int) ≤ 134)) = true
      · simp only [if_pos h2]
        simp only [Bool.and_eq_true, decide_eq_true_eq] at h2
        rw [decide_eq_true (show 6 ≤ c.size by omega), decide_eq_true (show c.size ≤ 134 by omega), Bool.true_and, Bool.true_and] at hg
        refine Ev.bind (bits_ev c (by omega)) ?_
        by_cases h3 : bitsS c = true
        · rw [h3] at hg
          simp only [h3, if_true, areTaps_all, Option.bind_some]
          rw [Bool.true_and] at hg
          simp only [if_neg hg]
          exact Ev.now _
        · simp only [if_neg h3]
          exact Ev.now _
      · simp only [if_neg h2]
        exact Ev.now _
    · simp only [if_neg h1]
      exact Ev.now _
theorem reads_j0 (s : ByteArray) (x y : Int) (b : Bool) (h : b = !goodC s x y) : Ev (fun k => turndownlaw06_CodeReads.j0 k s x y (readR s x y).1 (readR s x y).2.1 (readR s x y).2.2 b) true := by
  unfold readR
  by_cases hg : goodC s x y = true
  · rw [hg] at h
    subst h
    rw [if_pos hg]
    obtain ⟨h1, h2, h3, h4, h5, h6⟩ := goodC_of hg
    have hr : turndownref06_Read.f s x y = some (readM s x y (s.size / 2), VR x.toNat y.toNat s (s.size / 2) 0 0) := by
      unfold turndownref06_Read.f
      rw [if_pos ⟨⟨by omega, by omega, by omega, by omega⟩, by omega, by omega, by omega⟩]
      rfl
    refine Ev.step (fun k => ?_) (Ev.bind (f := fun _ t => some t) awake_ev (Ev.now _))
    rw [turndownlaw06_CodeReads.j0, if_neg (by simp), hr, Option.bind_some, if_pos rfl, if_pos rfl, if_pos rfl]
  · have hb : goodC s x y = false := by simpa using hg
    rw [hb] at h
    subst h
    rw [if_neg hg]
    refine Ev.step (fun k => ?_) (Ev.bind (f := fun _ t => some t) awake_ev (Ev.now _))
    rw [turndownlaw06_CodeReads.j0, if_pos (by simp), if_pos no_bytes2, if_pos rfl, if_pos rfl]
theorem CodeReads (a0 : ByteArray) (x y : Int) : ∃ k, turndownlaw06_CodeReads.f k a0 x y = some true := by
  obtain ⟨s, hs⟩ : ∃ s, a0.extract 0 ((mn (a0.size : Int) 200) : Int).toNat = s := ⟨_, rfl⟩
  have hm1 : 0 ≤ mn (a0.size : Int) 200 := by unfold mn; split <;> omega
  have hm2 : mn (a0.size : Int) 200 ≤ (a0.size : Int) := by unfold mn; split <;> omega
  have hm3 : mn (a0.size : Int) 200 ≤ 200 := by unfold mn; split <;> omega
  have hsz : s.size ≤ 200 := by
    rw [← hs, ByteArray.size_extract]; omega
  have key : Ev (fun k => turndownlaw06_CodeReads.f k a0 x y) true := by
    unfold turndownlaw06_CodeReads.f
    simp only [if_pos hm1, if_pos hm2, hs]
    refine Ev.bind (read_all s x y (by omega)) ?_
    have fin := reads_j0 s x y
    by_cases h1 : (s.size : Int) % 2 = 1
    · simp only [if_pos h1]
      refine fin true ?_
      unfold goodC
      rw [decide_eq_false (by omega)]; rfl
    · simp only [if_neg h1]
      by_cases h2 : (s.size : Int) < 6
      · simp only [if_pos h2]
        refine fin true ?_
        unfold goodC
        rw [decide_eq_false (show ¬ 6 ≤ s.size by omega)]; simp
      · simp only [if_neg h2]
        by_cases h3 : (s.size : Int) > 134
        · simp only [if_pos h3]
          refine fin true ?_
          unfold goodC
          rw [decide_eq_false (show ¬ s.size ≤ 134 by omega)]; simp
        · simp only [if_neg h3]
          have e : ∀ z, (decide (s.size % 2 = 0) && decide (6 ≤ s.size) && decide (s.size ≤ 134) && z) = z := fun z => by
            rw [decide_eq_true (show s.size % 2 = 0 by omega), decide_eq_true (show 6 ≤ s.size by omega), decide_eq_true (show s.size ≤ 134 by omega)]; rfl
          refine Ev.bind (refBits_ev s (by omega)) ?_
          by_cases h4 : bitsS s = true
          · simp only [h4, if_true, tap_all, Option.bind_some]
            by_cases h5 : tapB x = true
            · simp only [h5, if_true]
              refine fin _ ?_
              unfold goodC
              rw [e, h4, h5]; rfl
            · simp only [if_neg h5]
              refine fin _ ?_
              unfold goodC
              have h5' : tapB x = false := by simpa using h5
              rw [e, h4, h5']; rfl
          · simp only [if_neg h4]
            refine fin _ ?_
            unfold goodC
            have h4' : bitsS s = false := by simpa using h4
            rw [e, h4']; rfl
  obtain ⟨K, hK⟩ := key
  exact ⟨K, hK K (Nat.le_refl _)⟩
end Go.Proofs.Ytcpojohpmcnnhaa.Pure

set_option linter.unusedVariables false
set_option linter.unusedSimpArgs false
namespace Go.Proofs.Ytcpojohpmcnnhaa.E
open Go.ChangeShapes Go.WideShapes Go.ChangeAt Go.RowKit Go.Deep
open Go.Proofs.YtcpojohpmcnnhaaW.PrintWords Go.Proofs.YtcpojohpmcnnhaaW.PrintLast Go.Proofs.YtcpojohpmcnnhaaW.PrintMore
open Go.Proofs.Ytcpojohpmcnnhaa.PA
theorem own : ownKnob Try.prog.godebug = none := by kernel_rfl
theorem laidOut : laidOutB Try.prog = true := by kernel_rfl
variable {H : Type} {enc : TypeId × Value → H}
theorem open_int3 {W : World} {fuel : Nat} {cs : List Value} {x : DataW H × List MemPlace} (h : DataW.trod enc Try.prog W 0 (fun _ => true) true fuel 3 cs = some x) : ∃ n, cs = [.int .i64 n] ∧ x = (.lit (.int .i64 n), []) ∧ (Lit.int .i64 n).wf = true :=
  DataW.trod_int Try.underlying3 h
theorem okWide_array {P : Program} {w : World} {r : Reach} {base : Nat} {t e : TypeId} {n : Nat} {v : Value} (ht : P.underlying t = some (.array n e)) (h : Value.okWide P w r base t v) : ∃ cs, v = .agg cs ∧ cs.size = P.cellsOf t := by
  simp only [Value.okWide, ht] at h
  obtain ⟨cs, h1, h2, _⟩ := h
  exact ⟨cs, h1, h2⟩
set_option maxRecDepth 100000 in
theorem ints_of_array {W : World} {base : Nat} {t n : Nat} {v : Value} {d : DataW H} {p : List MemPlace} (ht : Try.prog.underlying t = some (.array n 3)) (hC : Try.prog.cellsOf t = n) (hv : Value.okWide Try.prog W .any base t v)
    (h : DataW.Trod enc Try.prog W 0 (fun _ => true) true t v d p) : ∃ cs : Array Value, v = .agg cs ∧ cs.size = n ∧ ∀ i, i < n → ∃ x : Int, (v.cells.toList.drop i).take 1 = [.int .i64 x] ∧ (Lit.int .i64 x).wf = true := by
  have e1 : Try.prog.cellsOf 3 = 1 := by kernel_rfl
  obtain ⟨cs, rfl, hsz⟩ := okWide_array ht hv
  obtain ⟨fuel, hf⟩ := h
  obtain ⟨xs, m, _, _, _, hl, hel⟩ := DataW.trod_array ht hf
  refine ⟨cs, rfl, by omega, fun i hi => ?_⟩
  have h1 := hel i hi
  rw [e1, Nat.mul_one] at h1
  rw [List.getElem?_eq_getElem (by omega)] at h1
  obtain ⟨x, h2, _, h3⟩ := open_int3 h1
  exact ⟨x, h2, h3⟩
theorem arr2 : ∀ {cs : Array Value}, cs.size = 2 → ∃ a b, cs = #[a, b] := by
  rintro ⟨l⟩ h
  match l, h with
  | [a, b], _ => exact ⟨a, b, rfl⟩
set_option maxRecDepth 100000 in
theorem open_arr2 {W : World} {base : Nat} {v : Value} {d : DataW H} {p : List MemPlace} (hv : Value.okWide Try.prog W .any base 38 v) (h : DataW.Trod enc Try.prog W 0 (fun _ => true) true 38 v d p) :
    ∃ a b : Int, v = .agg #[.int .i64 a, .int .i64 b] ∧ (Lit.int .i64 a).wf = true ∧ (Lit.int .i64 b).wf = true := by
  obtain ⟨cs, rfl, hsz, hc⟩ := ints_of_array Try.underlying38 (by kernel_rfl) hv h
  obtain ⟨c0, c1, rfl⟩ := arr2 hsz
  obtain ⟨a, ha, wa⟩ := hc 0 (by omega)
  obtain ⟨b, hb, wb⟩ := hc 1 (by omega)
  simp [Value.cells] at ha hb
  exact ⟨a, b, by rw [ha, hb], wa, wb⟩
end Go.Proofs.Ytcpojohpmcnnhaa.E

set_option linter.unusedVariables false
set_option linter.unusedSimpArgs false
namespace Go.Proofs.Ytcpojohpmcnnhaa.codeReads
open Go.ChangeShapes Go.WideShapes Go.ChangeAt Go.RowKit
open Go.ChangeMaps (open_string shut_string)
open Go.Proofs.Ytcpojohpmcnnhaa.E
set_option maxRecDepth 100000 in
theorem lifted (os : Os) (started : os.Started) (H : Type) (enc : TypeId × Value → H) :
  ReturnsInHanded {} Try.checked os 6 .any (Rows.codeReadsSpec.pre6 enc Try.prog Try.f6 Rows.codeReadsRow.domain false) (Rows.codeReadsSpec.post enc Try.prog Try.f6 false true false false) := by
 refine returnsInHanded_of_change_sized (C := Try.checked) own started (by kernel_rfl) Try.func6
  (ChangeSpec.witness6 (enc := enc) (C := Try.checked) false ⟨#[], #[.string ByteArray.empty, .agg #[.int .i64 0, .int .i64 0]], []⟩ 8 (by kernel_rfl) (by kernel_rfl) (by kernel_rfl) (by kernel_rfl)) ?_
 intro W base args ds gs before hval0 hW hcnd hsz0 _
 have hsz : (DataW.weightsEach Try.prog (Try.f6.params.toList ++ Rows.codeReadsSpec.plain.varTypes Try.prog) (ds ++ gs)).all (· ≤ reachBytes) = true := hsz0
 have hval : ∀ (j : Nat) t v, Try.f6.params[j]? = some t → args[j]? = some v → Value.okWide Try.prog W .any base t v := hval0
 have hW' := hW
 obtain ⟨p, q, hA0, hV, rfl, hfz, hnd⟩ := hW
 have hA : DataW.TrodAll enc Try.prog W 0 (fun _ => true) true Try.f6.params.toList args.toList ds p := hA0
 rw [Try.params6] at hA hval hsz
 obtain ⟨v0, vs0, d0, ds0, p0, q0, hargs, rfl, rfl, h0, r0⟩ := trodAll_cons hA
 obtain ⟨v1, vs1, d1, ds1, p1, q1, rfl, rfl, rfl, h1, r1⟩ := trodAll_cons r0
 obtain ⟨rfl, rfl, rfl⟩ := trodAll_nil r1
 obtain rfl : args = #[v0, v1] := by cases args; simp_all
 obtain ⟨rfl, rfl⟩ := trodVars_none hV
 obtain ⟨a0, rfl, rfl, rfl, y0⟩ := open_string Try.underlying9 (hval 0 9 v0 rfl rfl) h0
 have w0 : a0.size ≤ 140737488351232 := by
  have z := sized_string hsz (j := 0) (t := 9) rfl rfl
  rw [Array.length_toList] at z
  exact z
 have k1 := h1
 have lt1 : ∀ x ∈ p1, x.block < W.heap.size := by obtain ⟨m, hm⟩ := k1; exact DataW.trod_lt m _ _ _ hm
 obtain ⟨a1, b1, rfl, w1, u1⟩ := open_arr2 (hval 1 38 v1 rfl rfl) h1
 clear hA0 hval0 hsz0 hsz
 obtain ⟨kk, hk⟩ := Pure.CodeReads a0 a1 b1
 refine (PA.turndownlaw06_CodeReads.calls kk a0 a1 b1 true W hk).mono fun e W' ⟨he, bel⟩ => ?_
 subst he
 exact ⟨_, rfl, _, _, _, [], _, [], hW', trodAll_mk1 (shut_bool Try.underlying4 _), (trodAll_cons_mk (shut_string Try.underlying9 y0) (trodAll_cons_mk (Below.trod laidOut (by kernel_rfl) (of_decide_eq_true (by kernel_rfl)) k1 bel lt1) trodAll_mk0)), rfl, bel.frame _, fun h => by cases h⟩
theorem over : Rows.codeReadsRow.holds Try.pinned (OpenSpec.ofChange Rows.codeReadsSpec) :=
 OpenClaim.holds_of_wide 6 Try.f6 rfl rfl rfl rfl rfl rfl rfl ⟨rfl, rfl, rfl, rfl, rfl⟩ rfl rfl rfl rfl rfl (by kernel_rfl) Try.func6 (by kernel_rfl)
  (of_decide_eq_true (by kernel_rfl)) (by unfold Func.isWrapper; first | (rw [if_pos (by decide +kernel)]; kernel_rfl) | (rw [if_neg (by decide +kernel)]; exact ⟨rfl, rfl⟩))
  (fun os started H enc _ => lifted os started H enc)
theorem proved : Rows.CodeReadsSaid := over
end Go.Proofs.Ytcpojohpmcnnhaa.codeReads
namespace Go.Proofs.Ytcpojohpmcnnhaa
theorem codeReads_holds : Rows.CodeReadsSaid := codeReads.proved
end Go.Proofs.Ytcpojohpmcnnhaa
