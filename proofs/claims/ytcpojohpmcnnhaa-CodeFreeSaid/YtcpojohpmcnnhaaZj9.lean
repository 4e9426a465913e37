/- What the statements of this seat lean on: the functions that they reach, walked. -/
import Derived.RowKit
import Derived.Test.YtcpojohpmcnnhaaZj8
set_option linter.unusedSimpArgs false
set_option linter.unusedVariables false

namespace Go.Proofs.Ytcpojohpmcnnhaa.PA
open Go.RowKit Go.Proofs.YtcpojohpmcnnhaaW.PrintWords Go.Proofs.YtcpojohpmcnnhaaW.PrintLast Go.Proofs.YtcpojohpmcnnhaaW.PrintMore
attribute [local go_sem] max2_int min2_int max_two min_two max_three min_three max_four min_four
set_option linter.unusedVariables false
set_option linter.unusedSimpArgs false
def code_areTaps.f (a0 : Int) (a1 : Int) : Option (Bool) := (code_within.f a0 1 15).bind fun t133 => (if t133 = true then ((code_within.f a1 1 15).bind fun t134 => (some t134)) else (some false))
set_option maxHeartbeats 8000000 in
set_option maxRecDepth 100000 in
theorem code_areTaps.calls (a0 : Int) (a1 : Int) (r : Bool) (w : World) (h : code_areTaps.f a0 a1 = some r) :
  Calls Try.prog 59 #[.int .i64 a0, .int .i64 a1] w fun e w' => e = .returned (.bool r) ∧ Drawn0 w w' := by
 have H : ((code_within.f a0 1 15).bind fun t133 => (if t133 = true then ((code_within.f a1 1 15).bind fun t134 => (some t134)) else (some false))) = some r := h
 clear h
 replace H := Option.bind_eq_some_iff.mp H
 obtain ⟨t133, A30, H⟩ := H
 replace H : (if t133 = true then ((code_within.f a1 1 15).bind fun t134 => (some t134)) else (some false)) = some r := H
 have A3 := Aside0.mk A30
 clear A30
 by_cases c4 : t133 = true
 ·
  subst c4
  have H1 : ((code_within.f a1 1 15).bind fun t134 => (some t134)) = some r := by rw [if_pos rfl] at H; exact H
  clear H
  have H := H1
  clear H1
  replace H := Option.bind_eq_some_iff.mp H
  obtain ⟨t134, A50, H⟩ := H
  replace H : (some t134) = some r := H
  have A5 := Aside0.mk A50
  clear A50
  obtain rfl := Option.some.inj H
  go_enter Try.func59, Try.ntmps59
  go_wp2_with (first | ((with_reducible refine gate_callee (f := 50) rfl ?_); refine goesL_ (some 6) rfl rfl Try.func50 (by kernel_rfl) rfl #[.int .i64 a0, .int .i64 1, .int .i64 15] rfl (by (try simp only [List.map_toArray, List.map_cons, List.map_nil]); first | done | rfl | (simp only [List.length_drop, List.length_take]; rfl)) ?_; (with_reducible refine (code_within.calls a0 1 15 true _ A3.out).mono ?_); rintro e w' ⟨rfl, ⟨nd, rfl⟩⟩; refine ⟨_, rfl, ?_⟩) | (go_at_call 50; (with_reducible refine (code_within.calls a1 1 15 t134 _ A5.out).mono ?_); rintro e w' ⟨rfl, ⟨nd, rfl⟩⟩))
  go_ret
  exact ⟨by first | rfl | (simp; done) | (simp [*]; done), by repeat (first | exact Drawn0.refl _ | apply Drawn0.step)⟩
 ·
  replace c4 := Bool.eq_false_iff.mpr c4
  subst c4
  have H1 : (some false) = some r := by rw [if_neg (show ¬ (false = true) by decide)] at H; exact H
  clear H
  have H := H1
  clear H1
  obtain rfl := Option.some.inj H
  go_enter Try.func59, Try.ntmps59
  go_wp2_with (first | ((with_reducible refine gate_callee (f := 50) rfl ?_); refine goesL_ (some 6) rfl rfl Try.func50 (by kernel_rfl) rfl #[.int .i64 a0, .int .i64 1, .int .i64 15] rfl (by (try simp only [List.map_toArray, List.map_cons, List.map_nil]); first | done | rfl | (simp only [List.length_drop, List.length_take]; rfl)) ?_; (with_reducible refine (code_within.calls a0 1 15 false _ A3.out).mono ?_); rintro e w' ⟨rfl, ⟨nd, rfl⟩⟩; refine ⟨_, rfl, ?_⟩))
  go_ret
  exact ⟨by first | rfl | (simp; done) | (simp [*]; done), by repeat (first | exact Drawn0.refl _ | apply Drawn0.step)⟩
end Go.Proofs.Ytcpojohpmcnnhaa.PA

namespace Go.Proofs.Ytcpojohpmcnnhaa.PA
open Go.RowKit Go.Proofs.YtcpojohpmcnnhaaW.PrintWords Go.Proofs.YtcpojohpmcnnhaaW.PrintLast Go.Proofs.YtcpojohpmcnnhaaW.PrintMore
attribute [local go_sem] max2_int min2_int max_two min_two max_three min_three max_four min_four
set_option linter.unusedVariables false
set_option linter.unusedSimpArgs false
def code_Card.f (k : Nat) (a0 : ByteArray) (a1 : Int) (a2 : Int) : Option (ByteArray × Int) := if (a0.size : Int) > 64 then (some ((⟨#[]⟩ : ByteArray), 2)) else ((code_isBits.f k a0).bind fun t141 => (if t141 = true then ((code_areTaps.f a1 a2).bind fun t142 => (if t142 = true then ((code_taps_card.f a1 a2 a0).bind fun t143 => (some (t143, 0))) else (some ((⟨#[]⟩ : ByteArray), 2)))) else (some ((⟨#[]⟩ : ByteArray), 2))))
theorem code_Card.mono : ∀ a0 a1 a2 k, LeO (code_Card.f k a0 a1 a2) (code_Card.f (k + 1) a0 a1 a2) := by
 intro a0 a1 a2 k
 unfold code_Card.f
 repeat' first
   | (with_reducible exact code_isBits.mono _ _)
   | (with_reducible exact LeO.refl _)
   | (with_reducible exact LeO.none _)
   | (with_reducible refine LeO.ite ?_ ?_)
   | (with_reducible refine LeO.bind ?_ (fun _ => ?_))
   | exact code_isBits.mono _ _
   | exact LeO.none _
   | refine LeO.ite ?_ ?_
   | refine LeO.bind ?_ (fun _ => ?_)
set_option maxHeartbeats 8000000 in
set_option maxRecDepth 100000 in
theorem code_Card.calls (k : Nat) (a0 : ByteArray) (a1 : Int) (a2 : Int) (r1 : ByteArray) (r2 : Int) (w : World) (h : code_Card.f k a0 a1 a2 = some (r1, r2)) :
  Calls Try.prog 30 #[.string a0, .int .i64 a1, .int .i64 a2] w fun e w' => e = .returned (.tuple #[.string r1, .int .i64 r2]) ∧ Below w.heap.size w w' := by
 have hu77 := Try.underlying77
 have HB := Aside0.mk (Below.refl w.heap.size w)
 have H : (if (a0.size : Int) > 64 then (some ((⟨#[]⟩ : ByteArray), 2)) else ((code_isBits.f k a0).bind fun t141 => (if t141 = true then ((code_areTaps.f a1 a2).bind fun t142 => (if t142 = true then ((code_taps_card.f a1 a2 a0).bind fun t143 => (some (t143, 0))) else (some ((⟨#[]⟩ : ByteArray), 2)))) else (some ((⟨#[]⟩ : ByteArray), 2))))) = some (r1, r2) := h
 clear h
 by_cases c4 : (a0.size : Int) > 64
 ·
  rw [if_pos c4] at H
  have c4b0 : decide (64 < (a0.size : Int)) = true := decide_eq_true c4
  have c4b1 : decide (64 < a0.size) = true := decide_eq_true (by omega)
  clear c4
  simp only [Option.some.injEq, Prod.mk.injEq] at H
  obtain ⟨rfl, rfl⟩ := H
  go_enter Try.func30, Try.ntmps30
  go_wp2
  go_ret2
  exact ⟨by first | rfl | (simp [errW_none, errW_some] <;> rfl) | (simp [*, errW_none, errW_some] <;> rfl), by repeat (first | (with_reducible first | exact HB.out | apply below_alloc | apply pw_below_drewN | apply below_drew1) | exact HB.out)⟩
 ·
  rw [if_neg c4] at H
  have c4b0 : decide (64 < (a0.size : Int)) = false := decide_eq_false c4
  have c4b1 : decide (64 < a0.size) = false := decide_eq_false (by omega)
  clear c4
  replace H := Option.bind_eq_some_iff.mp H
  obtain ⟨t141, A50, H⟩ := H
  replace H : (if t141 = true then ((code_areTaps.f a1 a2).bind fun t142 => (if t142 = true then ((code_taps_card.f a1 a2 a0).bind fun t143 => (some (t143, 0))) else (some ((⟨#[]⟩ : ByteArray), 2)))) else (some ((⟨#[]⟩ : ByteArray), 2))) = some (r1, r2) := H
  have A5 := Aside0.mk A50
  clear A50
  by_cases c6 : t141 = true
  ·
   subst c6
   have H1 : ((code_areTaps.f a1 a2).bind fun t142 => (if t142 = true then ((code_taps_card.f a1 a2 a0).bind fun t143 => (some (t143, 0))) else (some ((⟨#[]⟩ : ByteArray), 2)))) = some (r1, r2) := by rw [if_pos rfl] at H; exact H
   clear H
   have H := H1
   clear H1
   replace H := Option.bind_eq_some_iff.mp H
   obtain ⟨t142, A70, H⟩ := H
   replace H : (if t142 = true then ((code_taps_card.f a1 a2 a0).bind fun t143 => (some (t143, 0))) else (some ((⟨#[]⟩ : ByteArray), 2))) = some (r1, r2) := H
   have A7 := Aside0.mk A70
   clear A70
   by_cases c8 : t142 = true
   ·
    subst c8
    have H1 : ((code_taps_card.f a1 a2 a0).bind fun t143 => (some (t143, 0))) = some (r1, r2) := by rw [if_pos rfl] at H; exact H
    clear H
    have H := H1
    clear H1
    replace H := Option.bind_eq_some_iff.mp H
    obtain ⟨t143, A90, H⟩ := H
    replace H : (some (t143, 0)) = some (r1, r2) := H
    have A9 := Aside0.mk A90
    clear A90
    simp only [Option.some.injEq, Prod.mk.injEq] at H
    obtain ⟨rfl, rfl⟩ := H
    go_enter Try.func30, Try.ntmps30
    go_wp2_with (first | (go_at_call 58; (with_reducible refine (code_isBits.calls k a0 true _ A5.out).mono ?_); rintro e w' ⟨rfl, ⟨nd, rfl⟩⟩) | (go_at_call 59; (with_reducible refine (code_areTaps.calls a1 a2 true _ A7.out).mono ?_); rintro e w' ⟨rfl, ⟨nd, rfl⟩⟩) | ((with_reducible refine gate_callee (f := 60) rfl ?_); refine goesL_ (some 26) rfl rfl Try.func60 (by kernel_rfl) rfl #[.agg #[.int .i64 a1, .int .i64 a2], .string a0] rfl (by (try simp only [List.map_toArray, List.map_cons, List.map_nil]); first | done | rfl | (simp only [List.length_drop, List.length_take]; rfl)) ?_; (with_reducible refine (code_taps_card.calls a1 a2 a0 t143 _ A9.out).mono ?_); rintro e w10 ⟨rfl, hb⟩; refine ⟨_, rfl, ?_⟩; have n0_ := Aside0.mk (below_step (by repeat (first | (with_reducible first | exact HB.out | apply below_alloc | apply pw_below_drewN | apply below_drew1) | exact HB.out)) hb); clear HB; have HB := n0_; clear n0_; (try clear hb); (try clear hb2); (try clear hk); (try clear hi)))
    go_ret2
    exact ⟨by first | rfl | (simp [errW_none, errW_some] <;> rfl) | (simp [*, errW_none, errW_some] <;> rfl), by repeat (first | (with_reducible first | exact HB.out | apply below_alloc | apply pw_below_drewN | apply below_drew1) | exact HB.out)⟩
   ·
    replace c8 := Bool.eq_false_iff.mpr c8
    subst c8
    have H1 : (some ((⟨#[]⟩ : ByteArray), 2)) = some (r1, r2) := by rw [if_neg (show ¬ (false = true) by decide)] at H; exact H
    clear H
    have H := H1
    clear H1
    simp only [Option.some.injEq, Prod.mk.injEq] at H
    obtain ⟨rfl, rfl⟩ := H
    go_enter Try.func30, Try.ntmps30
    go_wp2_with (first | (go_at_call 58; (with_reducible refine (code_isBits.calls k a0 true _ A5.out).mono ?_); rintro e w' ⟨rfl, ⟨nd, rfl⟩⟩) | (go_at_call 59; (with_reducible refine (code_areTaps.calls a1 a2 false _ A7.out).mono ?_); rintro e w' ⟨rfl, ⟨nd, rfl⟩⟩))
    go_ret2
    exact ⟨by first | rfl | (simp [errW_none, errW_some] <;> rfl) | (simp [*, errW_none, errW_some] <;> rfl), by repeat (first | (with_reducible first | exact HB.out | apply below_alloc | apply pw_below_drewN | apply below_drew1) | exact HB.out)⟩
  ·
   replace c6 := Bool.eq_false_iff.mpr c6
   subst c6
   have H1 : (some ((⟨#[]⟩ : ByteArray), 2)) = some (r1, r2) := by rw [if_neg (show ¬ (false = true) by decide)] at H; exact H
   clear H
   have H := H1
   clear H1
   simp only [Option.some.injEq, Prod.mk.injEq] at H
   obtain ⟨rfl, rfl⟩ := H
   go_enter Try.func30, Try.ntmps30
   go_wp2_with (first | (go_at_call 58; (with_reducible refine (code_isBits.calls k a0 false _ A5.out).mono ?_); rintro e w' ⟨rfl, ⟨nd, rfl⟩⟩))
   go_ret2
   exact ⟨by first | rfl | (simp [errW_none, errW_some] <;> rfl) | (simp [*, errW_none, errW_some] <;> rfl), by repeat (first | (with_reducible first | exact HB.out | apply below_alloc | apply pw_below_drewN | apply below_drew1) | exact HB.out)⟩
end Go.Proofs.Ytcpojohpmcnnhaa.PA

set_option linter.unusedVariables false
set_option linter.unusedSimpArgs false
namespace Go.Proofs.Ytcpojohpmcnnhaa.PA
open Go.RowKit Go.Proofs.YtcpojohpmcnnhaaW.PrintWords Go.Proofs.YtcpojohpmcnnhaaW.PrintLast Go.Proofs.YtcpojohpmcnnhaaW.PrintMore
def code_taps_read.f (a0_0 : Int) (a0_1 : Int) (a1 : ByteArray) : Option (ByteArray × Int) :=
  if tapsOk a0_0 a0_1 ∧ a1.size = 2 * (a1.size / 2) ∧ 6 ≤ a1.size ∧ a1.size ≤ 2000 then some (⟨(A.msgR a0_0.toNat a0_1.toNat a1 (a1.size / 2) (a1.size / 2 - 3)).toArray⟩, (A.rowR a0_0.toNat a0_1.toNat a1 (a1.size / 2) 0).getD 0 0) else none
theorem code_taps_read.calls (a0_0 : Int) (a0_1 : Int) (a1 : ByteArray) (r1 : ByteArray) (r2 : Int) (w : World) (h : code_taps_read.f a0_0 a0_1 a1 = some (r1, r2)) :
    Calls Try.prog 62 #[.agg #[.int .i64 a0_0, .int .i64 a0_1], .string a1] w fun e w' => e = .returned (.tuple #[.string r1, .int .i64 r2]) ∧ Below w.heap.size w w' := by
  unfold code_taps_read.f at h
  split at h
  · rename_i hc
    obtain ⟨⟨h0, h1, h2, h3⟩, hs, hn, hm⟩ := hc
    simp only [Option.some.injEq, Prod.mk.injEq] at h
    obtain ⟨rfl, rfl⟩ := h
    obtain ⟨g, rfl⟩ := Int.eq_ofNat_of_zero_le h0
    obtain ⟨h, rfl⟩ := Int.eq_ofNat_of_zero_le h2
    exact A.read_c g h a1 (a1.size / 2) w (by omega) (by omega) (by omega) (by omega) hs
  · cases h
end Go.Proofs.Ytcpojohpmcnnhaa.PA

namespace Go.Proofs.Ytcpojohpmcnnhaa.PA
open Go.RowKit Go.Proofs.YtcpojohpmcnnhaaW.PrintWords Go.Proofs.YtcpojohpmcnnhaaW.PrintLast Go.Proofs.YtcpojohpmcnnhaaW.PrintMore
attribute [local go_sem] max2_int min2_int max_two min_two max_three min_three max_four min_four
set_option linter.unusedVariables false
set_option linter.unusedSimpArgs false
def code_Read.f (k : Nat) (a0 : ByteArray) (a1 : Int) (a2 : Int) : Option (ByteArray × Int × Int) := if ((a0.size : Int) % 2) = 0 then ((code_within.f (a0.size : Int) 6 134).bind fun t145 => (if t145 = true then ((code_isBits.f k a0).bind fun t146 => (if t146 = true then ((code_areTaps.f a1 a2).bind fun t147 => (if t147 = true then ((code_taps_read.f a1 a2 a0).bind fun bt148 => (some (bt148.1, bt148.2, 0))) else (some ((⟨#[]⟩ : ByteArray), 0, 2)))) else (some ((⟨#[]⟩ : ByteArray), 0, 2)))) else (some ((⟨#[]⟩ : ByteArray), 0, 2)))) else (some ((⟨#[]⟩ : ByteArray), 0, 2))
theorem code_Read.mono : ∀ a0 a1 a2 k, LeO (code_Read.f k a0 a1 a2) (code_Read.f (k + 1) a0 a1 a2) := by
 intro a0 a1 a2 k
 unfold code_Read.f
 repeat' first
   | (with_reducible exact code_isBits.mono _ _)
   | (with_reducible exact LeO.refl _)
   | (with_reducible exact LeO.none _)
   | (with_reducible refine LeO.ite ?_ ?_)
   | (with_reducible refine LeO.bind ?_ (fun _ => ?_))
   | exact code_isBits.mono _ _
   | exact LeO.none _
   | refine LeO.ite ?_ ?_
   | refine LeO.bind ?_ (fun _ => ?_)
set_option maxHeartbeats 8000000 in
set_option maxRecDepth 100000 in
theorem code_Read.calls (k : Nat) (a0 : ByteArray) (a1 : Int) (a2 : Int) (r1 : ByteArray) (r2 : Int) (r3 : Int) (w : World) (h : code_Read.f k a0 a1 a2 = some (r1, r2, r3)) :
  Calls Try.prog 34 #[.string a0, .int .i64 a1, .int .i64 a2] w fun e w' => e = .returned (.tuple #[.string r1, .int .i64 r2, .int .i64 r3]) ∧ Below w.heap.size w w' := by
 have hu77 := Try.underlying77
 have HB := Aside0.mk (Below.refl w.heap.size w)
 have H : (if ((a0.size : Int) % 2) = 0 then ((code_within.f (a0.size : Int) 6 134).bind fun t145 => (if t145 = true then ((code_isBits.f k a0).bind fun t146 => (if t146 = true then ((code_areTaps.f a1 a2).bind fun t147 => (if t147 = true then ((code_taps_read.f a1 a2 a0).bind fun bt148 => (some (bt148.1, bt148.2, 0))) else (some ((⟨#[]⟩ : ByteArray), 0, 2)))) else (some ((⟨#[]⟩ : ByteArray), 0, 2)))) else (some ((⟨#[]⟩ : ByteArray), 0, 2)))) else (some ((⟨#[]⟩ : ByteArray), 0, 2))) = some (r1, r2, r3) := h
 clear h
 by_cases c4 : ((a0.size : Int) % 2) = 0
 ·
  rw [if_pos c4] at H
  have c4b0 : (((a0.size : Int) % 2) == 0) = true := beq_iff_eq.mpr c4
  have c4b1 : (((a0.size : Int) % 2) != 0) = false := bne_eq_false_iff_eq.mpr c4
  clear c4
  replace H := Option.bind_eq_some_iff.mp H
  obtain ⟨t145, A50, H⟩ := H
  replace H : (if t145 = true then ((code_isBits.f k a0).bind fun t146 => (if t146 = true then ((code_areTaps.f a1 a2).bind fun t147 => (if t147 = true then ((code_taps_read.f a1 a2 a0).bind fun bt148 => (some (bt148.1, bt148.2, 0))) else (some ((⟨#[]⟩ : ByteArray), 0, 2)))) else (some ((⟨#[]⟩ : ByteArray), 0, 2)))) else (some ((⟨#[]⟩ : ByteArray), 0, 2))) = some (r1, r2, r3) := H
  have A5 := Aside0.mk A50
  clear A50
  by_cases c6 : t145 = true
  ·
   subst c6
   have H1 : ((code_isBits.f k a0).bind fun t146 => (if t146 = true then ((code_areTaps.f a1 a2).bind fun t147 => (if t147 = true then ((code_taps_read.f a1 a2 a0).bind fun bt148 => (some (bt148.1, bt148.2, 0))) else (some ((⟨#[]⟩ : ByteArray), 0, 2)))) else (some ((⟨#[]⟩ : ByteArray), 0, 2)))) = some (r1, r2, r3) := by rw [if_pos rfl] at H; exact H
   clear H
   have H := H1
   clear H1
   replace H := Option.bind_eq_some_iff.mp H
   obtain ⟨t146, A70, H⟩ := H
   replace H : (if t146 = true then ((code_areTaps.f a1 a2).bind fun t147 => (if t147 = true then ((code_taps_read.f a1 a2 a0).bind fun bt148 => (some (bt148.1, bt148.2, 0))) else (some ((⟨#[]⟩ : ByteArray), 0, 2)))) else (some ((⟨#[]⟩ : ByteArray), 0, 2))) = some (r1, r2, r3) := H
   have A7 := Aside0.mk A70
   clear A70
   by_cases c8 : t146 = true
   ·
    subst c8
    have H1 : ((code_areTaps.f a1 a2).bind fun t147 => (if t147 = true then ((code_taps_read.f a1 a2 a0).bind fun bt148 => (some (bt148.1, bt148.2, 0))) else (some ((⟨#[]⟩ : ByteArray), 0, 2)))) = some (r1, r2, r3) := by rw [if_pos rfl] at H; exact H
    clear H
    have H := H1
    clear H1
    replace H := Option.bind_eq_some_iff.mp H
    obtain ⟨t147, A90, H⟩ := H
    replace H : (if t147 = true then ((code_taps_read.f a1 a2 a0).bind fun bt148 => (some (bt148.1, bt148.2, 0))) else (some ((⟨#[]⟩ : ByteArray), 0, 2))) = some (r1, r2, r3) := H
    have A9 := Aside0.mk A90
    clear A90
    by_cases c10 : t147 = true
    ·
     subst c10
     have H1 : ((code_taps_read.f a1 a2 a0).bind fun bt148 => (some (bt148.1, bt148.2, 0))) = some (r1, r2, r3) := by rw [if_pos rfl] at H; exact H
     clear H
     have H := H1
     clear H1
     replace H := Option.bind_eq_some_iff.mp H
     obtain ⟨⟨t148, t149⟩, A110, H⟩ := H
     replace H : (some (t148, t149, 0)) = some (r1, r2, r3) := H
     have A11 := Aside0.mk A110
     clear A110
     simp only [Option.some.injEq, Prod.mk.injEq] at H
     obtain ⟨rfl, rfl, rfl⟩ := H
     go_enter Try.func34, Try.ntmps34
     go_wp2_with (first | (go_at_call 50; (with_reducible refine (code_within.calls (a0.size : Int) 6 134 true _ A5.out).mono ?_); rintro e w' ⟨rfl, ⟨nd, rfl⟩⟩) | (go_at_call 58; (with_reducible refine (code_isBits.calls k a0 true _ A7.out).mono ?_); rintro e w' ⟨rfl, ⟨nd, rfl⟩⟩) | (go_at_call 59; (with_reducible refine (code_areTaps.calls a1 a2 true _ A9.out).mono ?_); rintro e w' ⟨rfl, ⟨nd, rfl⟩⟩) | ((with_reducible refine gate_callee (f := 62) rfl ?_); refine goesL_ (some 37) rfl rfl Try.func62 (by kernel_rfl) rfl #[.agg #[.int .i64 a1, .int .i64 a2], .string a0] rfl (by (try simp only [List.map_toArray, List.map_cons, List.map_nil]); first | done | rfl | (simp only [List.length_drop, List.length_take]; rfl)) ?_; (with_reducible refine (code_taps_read.calls a1 a2 a0 t148 t149 _ A11.out).mono ?_); rintro e w12 ⟨rfl, hb⟩; refine ⟨_, rfl, ?_⟩; have n0_ := Aside0.mk (below_step (by repeat (first | (with_reducible first | exact HB.out | apply below_alloc | apply pw_below_drewN | apply below_drew1) | exact HB.out)) hb); clear HB; have HB := n0_; clear n0_; (try clear hb); (try clear hb2); (try clear hk); (try clear hi)))
     go_ret3
     exact ⟨by first | rfl | (simp [errW_none, errW_some] <;> rfl) | (simp [*, errW_none, errW_some] <;> rfl), by repeat (first | (with_reducible first | exact HB.out | apply below_alloc | apply pw_below_drewN | apply below_drew1) | exact HB.out)⟩
    ·
     replace c10 := Bool.eq_false_iff.mpr c10
     subst c10
     have H1 : (some ((⟨#[]⟩ : ByteArray), 0, 2)) = some (r1, r2, r3) := by rw [if_neg (show ¬ (false = true) by decide)] at H; exact H
     clear H
     have H := H1
     clear H1
     simp only [Option.some.injEq, Prod.mk.injEq] at H
     obtain ⟨rfl, rfl, rfl⟩ := H
     go_enter Try.func34, Try.ntmps34
     go_wp2_with (first | (go_at_call 50; (with_reducible refine (code_within.calls (a0.size : Int) 6 134 true _ A5.out).mono ?_); rintro e w' ⟨rfl, ⟨nd, rfl⟩⟩) | (go_at_call 58; (with_reducible refine (code_isBits.calls k a0 true _ A7.out).mono ?_); rintro e w' ⟨rfl, ⟨nd, rfl⟩⟩) | (go_at_call 59; (with_reducible refine (code_areTaps.calls a1 a2 false _ A9.out).mono ?_); rintro e w' ⟨rfl, ⟨nd, rfl⟩⟩))
     go_ret3
     exact ⟨by first | rfl | (simp [errW_none, errW_some] <;> rfl) | (simp [*, errW_none, errW_some] <;> rfl), by repeat (first | (with_reducible first | exact HB.out | apply below_alloc | apply pw_below_drewN | apply below_drew1) | exact HB.out)⟩
   ·
    replace c8 := Bool.eq_false_iff.mpr c8
    subst c8
    have H1 : (some ((⟨#[]⟩ : ByteArray), 0, 2)) = some (r1, r2, r3) := by rw [if_neg (show ¬ (false = true) by decide)] at H; exact H
    clear H
    have H := H1
    clear H1
    simp only [Option.some.injEq, Prod.mk.injEq] at H
    obtain ⟨rfl, rfl, rfl⟩ := H
    go_enter Try.func34, Try.ntmps34
    go_wp2_with (first | (go_at_call 50; (with_reducible refine (code_within.calls (a0.size : Int) 6 134 true _ A5.out).mono ?_); rintro e w' ⟨rfl, ⟨nd, rfl⟩⟩) | (go_at_call 58; (with_reducible refine (code_isBits.calls k a0 false _ A7.out).mono ?_); rintro e w' ⟨rfl, ⟨nd, rfl⟩⟩))
    go_ret3
    exact ⟨by first | rfl | (simp [errW_none, errW_some] <;> rfl) | (simp [*, errW_none, errW_some] <;> rfl), by repeat (first | (with_reducible first | exact HB.out | apply below_alloc | apply pw_below_drewN | apply below_drew1) | exact HB.out)⟩
  ·
   replace c6 := Bool.eq_false_iff.mpr c6
   subst c6
   have H1 : (some ((⟨#[]⟩ : ByteArray), 0, 2)) = some (r1, r2, r3) := by rw [if_neg (show ¬ (false = true) by decide)] at H; exact H
   clear H
   have H := H1
   clear H1
   simp only [Option.some.injEq, Prod.mk.injEq] at H
   obtain ⟨rfl, rfl, rfl⟩ := H
   go_enter Try.func34, Try.ntmps34
   go_wp2_with (first | (go_at_call 50; (with_reducible refine (code_within.calls (a0.size : Int) 6 134 false _ A5.out).mono ?_); rintro e w' ⟨rfl, ⟨nd, rfl⟩⟩))
   go_ret3
   exact ⟨by first | rfl | (simp [errW_none, errW_some] <;> rfl) | (simp [*, errW_none, errW_some] <;> rfl), by repeat (first | (with_reducible first | exact HB.out | apply below_alloc | apply pw_below_drewN | apply below_drew1) | exact HB.out)⟩
 ·
  rw [if_neg c4] at H
  have c4b0 : (((a0.size : Int) % 2) == 0) = false := beq_eq_false_iff_ne.mpr c4
  have c4b1 : (((a0.size : Int) % 2) != 0) = true := bne_iff_ne.mpr c4
  simp only [Option.some.injEq, Prod.mk.injEq] at H
  obtain ⟨rfl, rfl, rfl⟩ := H
  go_enter Try.func34, Try.ntmps34
  go_wp2
  go_ret3
  exact ⟨by first | rfl | (simp [errW_none, errW_some] <;> rfl) | (simp [*, errW_none, errW_some] <;> rfl), by repeat (first | (with_reducible first | exact HB.out | apply below_alloc | apply pw_below_drewN | apply below_drew1) | exact HB.out)⟩
end Go.Proofs.Ytcpojohpmcnnhaa.PA

set_option linter.unusedVariables false
set_option linter.unusedSimpArgs false
namespace Go.Proofs.Ytcpojohpmcnnhaa.A
open Go.RowKit Go.Proofs.YtcpojohpmcnnhaaW.PrintWords Go.Proofs.YtcpojohpmcnnhaaW.PrintLast Go.Proofs.YtcpojohpmcnnhaaW.PrintMore
open Go.Proofs.Ytcpojohpmcnnhaa.PA
def tailI (g h s : Nat) : Int := wtI g h (2 * s % 16) + wtI g h (2 * (2 * s % 16) % 16) + wtI g h (2 * (2 * (2 * s % 16) % 16) % 16)
def bestC (g h : Nat) (now : List Int) (best : Int) : Nat → Int
  | 0 => best
  | t + 1 => min (bestC g h now best t) (now.getD t 0 + tailI g h t)
def far8 : List Int := [1048576, 1048576, 1048576, 1048576, 1048576, 1048576, 1048576, 1048576]
def nextC (g h : Nat) (now : List Int) : Nat → List Int
  | 0 => far8
  | q + 1 => (nextC g h now q).set (q % 8) (min ((nextC g h now q).getD (q % 8) 0) (now.getD (q / 2) 0 + wtI g h q))
def freeS (g h : Nat) : Nat → Int × List Int
  | 0 => (1048576, far8.set 1 (wtI g h 1))
  | k + 1 => (bestC g h (freeS g h k).2 (freeS g h k).1 8, nextC g h (freeS g h k).2 16)
theorem nextC_len (g h : Nat) (now : List Int) : ∀ q, (nextC g h now q).length = 8
  | 0 => rfl
  | q + 1 => by simp [nextC, nextC_len g h now q]
theorem freeS_len (g h : Nat) : ∀ k, (freeS g h k).2.length = 8
  | 0 => by simp [freeS, far8]
  | k + 1 => nextC_len _ _ _ _
theorem tailI_bd (g h s : Nat) : 0 ≤ tailI g h s ∧ tailI g h s ≤ 6 := by
  unfold tailI
  have h1 := wtI_bd g h (2 * s % 16)
  have h2 := wtI_bd g h (2 * (2 * s % 16) % 16)
  have h3 := wtI_bd g h (2 * (2 * (2 * s % 16) % 16) % 16)
  omega
theorem far8_bd (j : Nat) : 0 ≤ far8.getD j 0 ∧ far8.getD j 0 ≤ 1048576 := by
  unfold far8
  match j with
  | 0 | 1 | 2 | 3 | 4 | 5 | 6 | 7 => simp
  | j + 8 => simp
theorem set_bd {xs : List Int} {m : Int} (h : ∀ j, 0 ≤ xs.getD j 0 ∧ xs.getD j 0 ≤ m) {k : Nat} {v : Int} (hv : 0 ≤ v ∧ v ≤ m) (j : Nat) : 0 ≤ (xs.set k v).getD j 0 ∧ (xs.set k v).getD j 0 ≤ m := by
  by_cases e : k = j
  · subst e
    by_cases hk : k < xs.length
    · rw [getD_set_self' hk]; exact hv
    · rw [List.set_eq_of_length_le (by omega)]; exact h k
  · have : (xs.set k v).getD j 0 = xs.getD j 0 := by simp [List.getD_eq_getElem?_getD, e]
    rw [this]; exact h j
theorem nextC_bd {g h : Nat} {now : List Int} (hn : ∀ j, 0 ≤ now.getD j 0) : ∀ q j, 0 ≤ (nextC g h now q).getD j 0 ∧ (nextC g h now q).getD j 0 ≤ 1048576
  | 0, j => far8_bd j
  | q + 1, j => by
    have ih := nextC_bd (g := g) (h := h) hn q
    have h1 := ih (q % 8)
    have h2 := hn (q / 2)
    have h3 := wtI_bd g h q
    exact set_bd ih (by omega) j
theorem init_bd {v : Int} (hv : 0 ≤ v ∧ v ≤ 2) (j : Nat) : 0 ≤ (far8.set 1 v).getD j 0 ∧ (far8.set 1 v).getD j 0 ≤ 1048576 := set_bd far8_bd (by omega) j
theorem freeS0 (g h : Nat) : (freeS g h 0).2 = far8.set 1 (wtI g h 1) := by rw [freeS]
theorem freeS1 (g h k : Nat) : (freeS g h (k + 1)).2 = nextC g h (freeS g h k).2 16 := by rw [freeS]
theorem freeS2 (g h k : Nat) : (freeS g h (k + 1)).1 = bestC g h (freeS g h k).2 (freeS g h k).1 8 := by rw [freeS]
theorem nextC_succ (g h : Nat) (now : List Int) (q : Nat) : nextC g h now (q + 1) = (nextC g h now q).set (q % 8) (min ((nextC g h now q).getD (q % 8) 0) (now.getD (q / 2) 0 + wtI g h q)) := by rw [nextC]
theorem nextC_zero (g h : Nat) (now : List Int) : nextC g h now 0 = far8 := by rw [nextC]
theorem arr_over {W : World} {b : Nat} {T : TypeId} {xs : List Int} (h : W.heap[b]? = some (.cells (arr8 xs) T (0, 0))) (o : List Int) : (((((((((W.setCell ⟨b, 0, none⟩ (.int .i64 (o[0]?.getD 0))).setCell ⟨b, 1, none⟩ (.int .i64 (o[1]?.getD 0))).setCell ⟨b, 2, none⟩ (.int .i64 (o[2]?.getD 0))).setCell ⟨b, 3, none⟩ (.int .i64 (o[3]?.getD 0))).setCell ⟨b, 4, none⟩ (.int .i64 (o[4]?.getD 0))).setCell ⟨b, 5, none⟩ (.int .i64 (o[5]?.getD 0))).setCell ⟨b, 6, none⟩ (.int .i64 (o[6]?.getD 0))).setCell ⟨b, 7, none⟩ (.int .i64 (o[7]?.getD 0)))).heap[b]? = some (.cells (arr8 o) T (0, 0)) := by
  simp [World.setCell, Array.getElem?_modify, h, arr8]
theorem freeS_bd (g h : Nat) : ∀ k j, 0 ≤ (freeS g h k).2.getD j 0 ∧ (freeS g h k).2.getD j 0 ≤ 1048576
  | 0, j => by rw [freeS0]; exact init_bd (wtI_bd g h 1) j
  | k + 1, j => by
    rw [freeS1]
    exact nextC_bd (fun j => (freeS_bd g h k j).1) 16 j
theorem bestC_bd {g h : Nat} {now : List Int} {best : Int} (hn : ∀ j, 0 ≤ now.getD j 0) (hb : 0 ≤ best ∧ best ≤ 1048576) : ∀ t, 0 ≤ bestC g h now best t ∧ bestC g h now best t ≤ 1048576
  | 0 => hb
  | t + 1 => by
    have ih := bestC_bd (g := g) (h := h) hn hb t
    have h1 := hn t
    have h2 := tailI_bd g h t
    unfold bestC
    omega
theorem freeS_best (g h : Nat) : ∀ k, 0 ≤ (freeS g h k).1 ∧ (freeS g h k).1 ≤ 1048576
  | 0 => by simp [freeS]
  | k + 1 => by
    rw [freeS2]
    exact bestC_bd (fun j => (freeS_bd g h k j).1) (freeS_best g h k) 8
def fillF (k : Nat) : List Int := (List.range 8).map (fun t => if t < k then 1048576 else 0)
theorem fillF_succ {k : Nat} (hk : k < 8) : (fillF k).set k 1048576 = fillF (k + 1) := by
  match k, hk with
  | 0, _ | 1, _ | 2, _ | 3, _ | 4, _ | 5, _ | 6, _ | 7, _ => rfl
  | k + 8, h => omega
theorem fillF8 : fillF 8 = far8 := by rfl
theorem fillF_len (k : Nat) : (fillF k).length = 8 := by simp [fillF]
theorem idx8 (xs : List Int) (k : Nat) (hk : k < 8) (w : World) : (Instr.index 108 (.agg #[.int .i64 (xs[0]?.getD 0), .int .i64 (xs[1]?.getD 0), .int .i64 (xs[2]?.getD 0), .int .i64 (xs[3]?.getD 0), .int .i64 (xs[4]?.getD 0), .int .i64 (xs[5]?.getD 0), .int .i64 (xs[6]?.getD 0), .int .i64 (xs[7]?.getD 0)]) (.int .i64 (k : Int))).run Try.prog w = .ok (.int .i64 (xs.getD k 0)) w := by
  match k, hk with
  | 0, _ | 1, _ | 2, _ | 3, _ | 4, _ | 5, _ | 6, _ | 7, _ =>
    show _ = _
    kernel_rfl
  | k + 8, h => omega
set_option maxHeartbeats 8000000 in
set_option maxRecDepth 100000 in
theorem free_c (g h : Nat) (w : World) (hg : g < 16) (hh : h < 16) :
    Calls Try.prog 64 #[.agg #[.int .i64 (g : Int), .int .i64 (h : Int)]] w fun e w' => e = .returned (.int .i64 (freeS g h 64).1) ∧ Below w.heap.size w w' := by
  have eg := enters81
  unfold Enters at eg
  go_enter Try.func64, Try.ntmps64
  go_wp2_with fail
  obtain ⟨w1, hw1⟩ : ∃ w1, (w.alloc (Obj.cells #[.int .i64 (g : Int), .int .i64 (h : Int)] 77)).alloc (Obj.cells #[.int .i64 0, .int .i64 0, .int .i64 0, .int .i64 0, .int .i64 0, .int .i64 0, .int .i64 0, .int .i64 0] 108) = w1 := ⟨_, rfl⟩
  rw [hw1]
  have hz1 : w1.heap.size = w.heap.size + 2 := by rw [← hw1]; simp
  have hB1 : Below w.heap.size w w1 := by rw [← hw1]; exact ((Below.refl _ _).alloc (Nat.le_refl _) _).alloc (by simp) _
  have h0 : w1.heap[w.heap.size]? = some (.cells #[.int .i64 (g : Int), .int .i64 (h : Int)] 77 (0, 0)) := by rw [← hw1, Lib.alloc_old _ _ _ (by simp)]; exact heap_alloc_new _ _
  have h1 : w1.heap[w.heap.size + 1]? = some (.cells (arr8 (fillF 0)) 108 (0, 0)) := by
    have := heap_alloc_new (w.alloc (Obj.cells #[.int .i64 (g : Int), .int .i64 (h : Int)] 77)) (Obj.cells #[.int .i64 0, .int .i64 0, .int .i64 0, .int .i64 0, .int .i64 0, .int .i64 0, .int .i64 0, .int .i64 0] 108)
    rw [hw1] at this
    have e : (w.alloc (Obj.cells #[.int .i64 (g : Int), .int .i64 (h : Int)] 77)).heap.size = w.heap.size + 1 := by simp
    rw [e] at this
    exact this
  have HB1 := Lib.hid hB1
  have H0 := Lib.hid h0
  have H1 := Lib.hid h1
  clear hw1 hB1 h0 h1
  go_loopw [19] (fun v19 wr => ∃ k : Nat, v19 = .int .i64 (k : Int) ∧ k ≤ 8 ∧ Hid (wr.heap[w.heap.size + 1]? = some (.cells (arr8 (fillF k)) 108 (0, 0))) ∧ Hid (R.Keeps [w.heap.size + 1] w1 wr)) (fun v19 _ => 8 - (intOf v19).toNat)
  case atStart => exact ⟨0, rfl, Nat.zero_le _, H1, Lib.hid (R.Keeps.refl _ _)⟩
  case round =>
    rename World => wr
    obtain ⟨k, rfl, hk, HA, HK⟩ := hrel
    by_cases hlt : k < 8
    · have hlt' : (k : Int) < 8 := by omega
      have hk0 : (0 : Int) ≤ (k : Int) := by omega
      have f1 : wr.frozen? ⟨w.heap.size + 1, k, none⟩ = false := arr_frozen HA.out k
      have c1 : wr.cell? ⟨w.heap.size + 1, k, none⟩ = some (.int .i64 ((fillF k).getD k 0)) := arr_cell HA.out hlt
      go_wp2_with fail
      refine ⟨⟨k + 1, by go_num, by omega, ?_, Lib.hid (HK.out.setCell (fun _ => by simp) _)⟩, by simp [intOf]; omega⟩
      rw [← fillF_succ hlt]
      exact Lib.hid (arr_set HA.out (fillF_len k) hlt _)
    · obtain rfl : k = 8 := by omega
      have y0 : wr.cell? ⟨w.heap.size, 0, none⟩ = some (.int .i64 (g : Int)) := HK.out.cell (a := ⟨w.heap.size, 0, none⟩) (by simp [World.cell?, H0.out]) (by simp)
      have y1 : wr.cell? ⟨w.heap.size, 1, none⟩ = some (.int .i64 (h : Int)) := HK.out.cell (a := ⟨w.heap.size, 1, none⟩) (by simp [World.cell?, H0.out]) (by simp)
      have HWT := Lib.hid (weight_c g h 1 w.heap.size wr hg hh (by omega) y0 y1)
      have hszr := HK.out.size
      clear y0 y1
      go_wp2_with fail
      refine HWT.out.mono ?_
      rintro e w2 ⟨rfl, hB2⟩
      have hA2 : w2.heap[w.heap.size + 1]? = some (.cells (arr8 (fillF 8)) 108 (0, 0)) := (hB2.block _ (by omega)).trans HA.out
      have f1 : w2.frozen? ⟨w.heap.size + 1, 1, none⟩ = false := arr_frozen hA2 1
      have c1 : w2.cell? ⟨w.heap.size + 1, 1, none⟩ = some (.int .i64 ((fillF 8).getD 1 0)) := arr_cell hA2 (by omega)
      have hA3 : Hid ((w2.setCell ⟨w.heap.size + 1, 1, none⟩ (.int .i64 (wtI g h 1))).heap[w.heap.size + 1]? = some (.cells (arr8 (freeS g h 0).2) 108 (0, 0))) := Lib.hid (arr_set hA2 (fillF_len 8) (by omega) _)
      have hK3 : Hid (R.Keeps [w.heap.size + 1] w1 (w2.setCell ⟨w.heap.size + 1, 1, none⟩ (.int .i64 (wtI g h 1)))) := Lib.hid ((HK.out.trans (R.Keeps.of_below [] hB2) (fun k hk => by simp at hk)).setCell (fun _ => by simp) _)
      have HA2 := Lib.hid hA2
      clear hB2 hA2
      go_wp2_with fail
      clear f1 c1 HA2
      generalize w2.setCell ⟨w.heap.size + 1, 1, none⟩ (.int .i64 (wtI g h 1)) = w3 at hA3 hK3 ⊢
      go_loopw [4, 28] (fun v4 v28 wo => ∃ k : Nat, v28 = .int .i64 (k : Int) ∧ v4 = .int .i64 (freeS g h k).1 ∧ k ≤ 64 ∧ Hid (wo.heap[w.heap.size + 1]? = some (.cells (arr8 (freeS g h k).2) 108 (0, 0))) ∧ Hid (R.Keeps [w.heap.size + 1] w1 wo)) (fun _ v28 _ => 64 - (intOf v28).toNat)
      case atStart => exact ⟨0, rfl, rfl, Nat.zero_le _, hA3, hK3⟩
      case round =>
        rename World => wo
        obtain ⟨k, rfl, rfl, hk64, HA, HK⟩ := hrel
        obtain ⟨best, hbest⟩ : ∃ best, (freeS g h k).1 = best := ⟨_, rfl⟩
        obtain ⟨now, hnow⟩ : ∃ now, (freeS g h k).2 = now := ⟨_, rfl⟩
        have hbb := freeS_best g h k
        have hnb := freeS_bd g h k
        have hnl := freeS_len g h k
        have hnext : freeS g h (k + 1) = (bestC g h (freeS g h k).2 (freeS g h k).1 8, nextC g h (freeS g h k).2 16) := by rw [freeS]
        rw [hbest, hnow] at hnext
        rw [hnow] at HA hnb hnl
        rw [hbest] at hbb ⊢
        have HN := Lib.hid hnext
        have HNB := Lib.hid hnb
        have HNL := Lib.hid hnl
        have HBE := Lib.hid hbest
        clear hnext hnb hnl hnow hbest
        by_cases hk2 : k < 64
        · have hk2' : (k : Int) < 64 := by omega
          have z0 : wo.cell? ⟨w.heap.size + 1, 0, none⟩ = some (.int .i64 (now.getD 0 0)) := arr_cell HA.out (by omega)
          have z1 : wo.cell? ⟨w.heap.size + 1, 1, none⟩ = some (.int .i64 (now.getD 1 0)) := arr_cell HA.out (by omega)
          have z2 : wo.cell? ⟨w.heap.size + 1, 2, none⟩ = some (.int .i64 (now.getD 2 0)) := arr_cell HA.out (by omega)
          have z3 : wo.cell? ⟨w.heap.size + 1, 3, none⟩ = some (.int .i64 (now.getD 3 0)) := arr_cell HA.out (by omega)
          have z4 : wo.cell? ⟨w.heap.size + 1, 4, none⟩ = some (.int .i64 (now.getD 4 0)) := arr_cell HA.out (by omega)
          have z5 : wo.cell? ⟨w.heap.size + 1, 5, none⟩ = some (.int .i64 (now.getD 5 0)) := arr_cell HA.out (by omega)
          have z6 : wo.cell? ⟨w.heap.size + 1, 6, none⟩ = some (.int .i64 (now.getD 6 0)) := arr_cell HA.out (by omega)
          have z7 : wo.cell? ⟨w.heap.size + 1, 7, none⟩ = some (.int .i64 (now.getD 7 0)) := arr_cell HA.out (by omega)
          have HIX := fun (t : Nat) (ht : t < 8) => Lib.hid (idx8 now t ht)
          have hszo := HK.out.size
          go_wp2_with fail
          clear z0 z1 z2 z3 z4 z5 z6 z7
          go_loopw [4, 31] (fun v4 v31 wi => ∃ t : Nat, v31 = .int .i64 (t : Int) ∧ v4 = .int .i64 (bestC g h now best t) ∧ t ≤ 8 ∧ Hid (R.Keeps [] wo wi)) (fun _ v31 _ => 8 - (intOf v31).toNat)
          case atStart => exact ⟨0, rfl, rfl, Nat.zero_le _, Lib.hid (R.Keeps.refl _ _)⟩
          case round =>
            rename World => wi
            obtain ⟨t, rfl, rfl, ht, HKi⟩ := hrel
            obtain ⟨bc, hbc⟩ : ∃ bc, bestC g h now best t = bc := ⟨_, rfl⟩
            have hbcb := bestC_bd (g := g) (h := h) (now := now) (best := best) (fun j => (HNB.out j).1) hbb t
            have hbn : bestC g h now best (t + 1) = min bc (now.getD t 0 + tailI g h t) := by rw [← hbc]; rfl
            rw [hbc] at hbcb ⊢
            have HBC := Lib.hid hbc
            by_cases ht8 : t < 8
            · have ht8' : (t : Int) < 8 := by omega
              have hix := (HIX t ht8).out
              have hnt := HNB.out t
              obtain ⟨y, hy⟩ : ∃ y, now.getD t 0 = y := ⟨_, rfl⟩
              rw [hy] at hix hnt hbn
              obtain ⟨a1, ha1⟩ : ∃ a1, 2 * t % 16 = a1 := ⟨_, rfl⟩
              obtain ⟨a2, ha2⟩ : ∃ a2, 2 * a1 % 16 = a2 := ⟨_, rfl⟩
              obtain ⟨a3, ha3⟩ : ∃ a3, 2 * a2 % 16 = a3 := ⟨_, rfl⟩
              have ht1 : tailI g h t = wtI g h a1 + wtI g h a2 + wtI g h a3 := by unfold tailI; rw [ha1, ha2, ha3]
              have HA1 : Hid (bits BinOp.and IntKind.i64 ((t : Int) * 2) 15 = (a1 : Int)) := by rw [← ha1]; exact Lib.hid (and_tab ⟨t, by omega⟩)
              have HA2 : Hid (bits BinOp.and IntKind.i64 ((a1 : Int) * 2) 15 = (a2 : Int)) := by rw [← ha2]; exact Lib.hid (and_tab ⟨a1, by omega⟩)
              have HA3 : Hid (bits BinOp.and IntKind.i64 ((a2 : Int) * 2) 15 = (a3 : Int)) := by rw [← ha3]; exact Lib.hid (and_tab ⟨a2, by omega⟩)
              have hq1 : a1 < 16 := by omega
              have hq2 : a2 < 16 := by omega
              have hq3 : a3 < 16 := by omega
              have b1 := wtI_bd g h a1
              have b2 := wtI_bd g h a2
              have b3 := wtI_bd g h a3
              have y0 : wo.cell? ⟨w.heap.size, 0, none⟩ = some (.int .i64 (g : Int)) := HK.out.cell (a := ⟨w.heap.size, 0, none⟩) (by simp [World.cell?, H0.out]) (by simp)
              have y1 : wo.cell? ⟨w.heap.size, 1, none⟩ = some (.int .i64 (h : Int)) := HK.out.cell (a := ⟨w.heap.size, 1, none⟩) (by simp [World.cell?, H0.out]) (by simp)
              have CW : Hid (∀ (W : World) (u : Nat), u < 16 → R.Keeps [] wo W → Calls Try.prog 81 #[.int .i64 (u : Int), .pointer (some ⟨w.heap.size, 0, none⟩)] W fun e w' => e = .returned (.int .i64 (wtI g h u)) ∧ Below W.heap.size W w') := Lib.hid (fun W u hu hW => weight_c g h u w.heap.size W hg hh hu (hW.cell y0 (by simp)) (hW.cell y1 (by simp)))
              obtain ⟨p1, hp1⟩ : ∃ p1, wtI g h a1 = p1 := ⟨_, rfl⟩
              obtain ⟨p2, hp2⟩ : ∃ p2, wtI g h a2 = p2 := ⟨_, rfl⟩
              obtain ⟨p3, hp3⟩ : ∃ p3, wtI g h a3 = p3 := ⟨_, rfl⟩
              rw [hp1] at b1 ht1
              rw [hp2] at b2 ht1
              rw [hp3] at b3 ht1
              rw [ht1] at hbn
              have HBN := Lib.hid hbn
              have HP := Lib.hid (And.intro hp1 (And.intro hp2 hp3))
              clear hbn ht1 hp1 hp2 hp3 ha1 ha2 ha3 y0 y1 hy hbc
              go_wp2_with fail
              refine wp_loop_rounds 4 ?_
              rw [rounds_succ]
              go_wp2_with fail
              rw [HA1.out]
              refine (CW.out _ a1 hq1 HKi.out).mono ?_
              rintro e w4 ⟨rfl, hB4⟩
              rw [HP.out.1]
              have HK4 := Lib.hid (HKi.out.trans (R.Keeps.of_below [] hB4) (fun k hk => by simp at hk))
              clear hB4
              go_wp2_with fail
              rw [rounds_succ]
              go_wp2_with fail
              rw [HA2.out]
              refine (CW.out _ a2 hq2 HK4.out).mono ?_
              rintro e w5 ⟨rfl, hB5⟩
              rw [HP.out.2.1]
              have HK5 := Lib.hid (HK4.out.trans (R.Keeps.of_below [] hB5) (fun k hk => by simp at hk))
              clear hB5
              go_wp2_with fail
              rw [rounds_succ]
              go_wp2_with fail
              rw [HA3.out]
              refine (CW.out _ a3 hq3 HK5.out).mono ?_
              rintro e w6 ⟨rfl, hB6⟩
              rw [HP.out.2.2]
              have HK6 := Lib.hid (HK5.out.trans (R.Keeps.of_below [] hB6) (fun k hk => by simp at hk))
              clear hB6
              go_wp2_with fail
              rw [rounds_succ]
              go_wp2_with fail
              refine ⟨⟨t + 1, by go_num, by rw [HBN.out, Int.add_assoc, Int.add_assoc, Int.add_assoc], by omega, HK6⟩, by simp [intOf]; omega⟩
            · obtain rfl : t = 8 := by omega
              simp only [show ((8 : Nat) : Int) = 8 from rfl]
              rw [← hbc]
              clear HBC hbn hbcb hbc
              go_wp2_with fail
              obtain ⟨wn, hwn⟩ : ∃ wn, wi.alloc (Obj.cells #[.int .i64 0, .int .i64 0, .int .i64 0, .int .i64 0, .int .i64 0, .int .i64 0, .int .i64 0, .int .i64 0] 108) = wn := ⟨_, rfl⟩
              rw [hwn]
              obtain ⟨nb, hnb⟩ : ∃ nb, wi.heap.size = nb := ⟨_, rfl⟩
              have hn : wn.heap[nb]? = some (.cells (arr8 (fillF 0)) 108 (0, 0)) := by
                rw [← hwn, ← hnb]
                exact heap_alloc_new _ _
              have hKn : R.Keeps [] wo wn := by rw [← hwn]; exact HKi.out.alloc _
              have hszi := HKi.out.size
              rw [hnb] at hszi ⊢
              have HNn := Lib.hid hn
              have HKn := Lib.hid hKn
              clear hwn hn hKn hnb
              go_loopw [52] (fun v52 wr => ∃ q : Nat, v52 = .int .i64 (q : Int) ∧ q ≤ 8 ∧ Hid (wr.heap[nb]? = some (.cells (arr8 (fillF q)) 108 (0, 0))) ∧ Hid (R.Keeps [] wo wr)) (fun v52 _ => 8 - (intOf v52).toNat)
              case atStart => exact ⟨0, rfl, Nat.zero_le _, HNn, HKn⟩
              case round =>
                rename World => wr
                obtain ⟨q, rfl, hq, HA', HK'⟩ := hrel
                by_cases hlt : q < 8
                · have hlt' : (q : Int) < 8 := by omega
                  have hq0 : (0 : Int) ≤ (q : Int) := by omega
                  have f1 : wr.frozen? ⟨nb, q, none⟩ = false := arr_frozen HA'.out q
                  have c1 : wr.cell? ⟨nb, q, none⟩ = some (.int .i64 ((fillF q).getD q 0)) := arr_cell HA'.out hlt
                  go_wp2_with fail
                  refine ⟨⟨q + 1, by go_num, by omega, ?_, Lib.hid (HK'.out.setCell (fun h => by simp at h; omega) _)⟩, by simp [intOf]; omega⟩
                  rw [← fillF_succ hlt]
                  exact Lib.hid (arr_set HA'.out (fillF_len q) hlt _)
                · obtain rfl : q = 8 := by omega
                  simp only [show ((8 : Nat) : Int) = 8 from rfl]
                  have hAw : wr.heap[w.heap.size + 1]? = some (.cells (arr8 now) 108 (0, 0)) := (HK'.out.block _ (by omega) (by simp)).trans HA.out
                  have z0 : wr.cell? ⟨w.heap.size + 1, 0, none⟩ = some (.int .i64 (now.getD 0 0)) := arr_cell hAw (by omega)
                  have z1 : wr.cell? ⟨w.heap.size + 1, 1, none⟩ = some (.int .i64 (now.getD 1 0)) := arr_cell hAw (by omega)
                  have z2 : wr.cell? ⟨w.heap.size + 1, 2, none⟩ = some (.int .i64 (now.getD 2 0)) := arr_cell hAw (by omega)
                  have z3 : wr.cell? ⟨w.heap.size + 1, 3, none⟩ = some (.int .i64 (now.getD 3 0)) := arr_cell hAw (by omega)
                  have z4 : wr.cell? ⟨w.heap.size + 1, 4, none⟩ = some (.int .i64 (now.getD 4 0)) := arr_cell hAw (by omega)
                  have z5 : wr.cell? ⟨w.heap.size + 1, 5, none⟩ = some (.int .i64 (now.getD 5 0)) := arr_cell hAw (by omega)
                  have z6 : wr.cell? ⟨w.heap.size + 1, 6, none⟩ = some (.int .i64 (now.getD 6 0)) := arr_cell hAw (by omega)
                  have z7 : wr.cell? ⟨w.heap.size + 1, 7, none⟩ = some (.int .i64 (now.getD 7 0)) := arr_cell hAw (by omega)
                  have hA8 : wr.heap[nb]? = some (.cells (arr8 (nextC g h now 0)) 108 (0, 0)) := by rw [nextC_zero, ← fillF8]; exact HA'.out
                  have HA8 := Lib.hid hA8
                  clear hA8 hAw
                  go_wp2_with fail
                  clear z0 z1 z2 z3 z4 z5 z6 z7
                  go_loopw [59] (fun v59 wq => ∃ u : Nat, v59 = .int .i64 (u : Int) ∧ u ≤ 8 ∧ Hid (wq.heap[nb]? = some (.cells (arr8 (nextC g h now (2 * u))) 108 (0, 0))) ∧ Hid (R.Keeps [] wo wq)) (fun v59 _ => 8 - (intOf v59).toNat)
                  case atStart => exact ⟨0, rfl, Nat.zero_le _, HA8, HK'⟩
                  case round =>
                    rename World => wq
                    obtain ⟨u, rfl, hu, HAq, HKq⟩ := hrel
                    by_cases hu8 : u < 8
                    · have hu8' : (u : Int) < 8 := by omega
                      have hu0 : (0 : Int) ≤ (u : Int) := by omega
                      have hix := (HIX u hu8).out
                      have hnt := HNB.out u
                      obtain ⟨y, hy⟩ : ∃ y, now.getD u 0 = y := ⟨_, rfl⟩
                      rw [hy] at hix hnt
                      have HY := Lib.hid hy
                      clear hy
                      go_wp2_with fail
                      clear hix
                      go_loopw [63] (fun v63 wz => ∃ c : Nat, v63 = .int .i64 (c : Int) ∧ c ≤ 2 ∧ Hid (wz.heap[nb]? = some (.cells (arr8 (nextC g h now (2 * u + c))) 108 (0, 0))) ∧ Hid (R.Keeps [] wo wz)) (fun v63 _ => 2 - (intOf v63).toNat)
                      case atStart => exact ⟨0, rfl, Nat.zero_le _, HAq, HKq⟩
                      case round =>
                        rename World => wz
                        obtain ⟨c, rfl, hc, HAz, HKz⟩ := hrel
                        by_cases hc2 : c < 2
                        · have hc2' : (c : Int) < 2 := by omega
                          obtain ⟨v, hv⟩ : ∃ v, 2 * u + c = v := ⟨_, rfl⟩
                          obtain ⟨m, hm⟩ : ∃ m, v % 8 = m := ⟨_, rfl⟩
                          have hv16 : v < 16 := by omega
                          have hm8 : m < 8 := by omega
                          have hu2 : v / 2 = u := by omega
                          have hor : bits BinOp.or IntKind.i64 ((u : Int) * 2) (c : Int) = (v : Int) := by
                            have := or_tab2 ⟨u, hu8⟩
                            obtain rfl | rfl : c = 0 ∨ c = 1 := by omega
                            · rw [← hv]; exact this.1
                            · rw [← hv]; exact this.2
                          have hand : bits BinOp.and IntKind.i64 (v : Int) 7 = (m : Int) := by
                            rw [← hm]; exact and7_tab ⟨v, hv16⟩
                          have hnew : nextC g h now (v + 1) = (nextC g h now v).set m (min ((nextC g h now v).getD m 0) (y + wtI g h v)) := by
                            rw [nextC_succ, hm, hu2, HY.out]
                          rw [hv] at HAz
                          have hcu := nextC_bd (g := g) (h := h) (now := now) (fun j => (HNB.out j).1) v m
                          have hlen := nextC_len g h now v
                          obtain ⟨xs, hxs⟩ : ∃ xs, nextC g h now v = xs := ⟨_, rfl⟩
                          rw [hxs] at hnew HAz hcu hlen
                          obtain ⟨cur, hcur⟩ : ∃ cur, xs.getD m 0 = cur := ⟨_, rfl⟩
                          rw [hcur] at hnew hcu
                          have hwt := wtI_bd g h v
                          have HNEW := Lib.hid hnew
                          have HAND := Lib.hid hand
                          have HOR := Lib.hid hor
                          have HCUR := Lib.hid hcur
                          have HLEN := Lib.hid hlen
                          have HUV := Lib.hid (show 2 * u + (c + 1) = v + 1 by omega)
                          clear hnew hand hor hcur hxs hlen hm hu2
                          have hz0 : wo.cell? ⟨w.heap.size, 0, none⟩ = some (.int .i64 (g : Int)) := HK.out.cell (a := ⟨w.heap.size, 0, none⟩) (by simp [World.cell?, H0.out]) (by simp)
                          have hz1' : wo.cell? ⟨w.heap.size, 1, none⟩ = some (.int .i64 (h : Int)) := HK.out.cell (a := ⟨w.heap.size, 1, none⟩) (by simp [World.cell?, H0.out]) (by simp)
                          have CW : Hid (∀ (W : World), R.Keeps [] wo W → Calls Try.prog 81 #[.int .i64 (v : Int), .pointer (some ⟨w.heap.size, 0, none⟩)] W fun e w' => e = .returned (.int .i64 (wtI g h v)) ∧ Below W.heap.size W w') := Lib.hid (fun W hW => weight_c g h v w.heap.size W hg hh hv16 (hW.cell hz0 (by simp)) (hW.cell hz1' (by simp)))
                          clear hz0 hz1'
                          obtain ⟨p, hp⟩ : ∃ p, wtI g h v = p := ⟨_, rfl⟩
                          rw [hp] at hwt CW HNEW
                          have HP := Lib.hid hp
                          clear hp
                          have hwr : IntKind.i64.wrap (y + p) = y + p := IntWalk.i64_in _ (by omega)
                          have HWR := Lib.hid hwr
                          have CE : Hid (∀ w', R.Keeps [] wz w' → w'.cell? ⟨nb, m, none⟩ = some (.int .i64 cur)) := Lib.hid (fun w' h => h.cell (by rw [← HCUR.out]; exact arr_cell HAz.out hm8) (by simp))
                          have hm0 : (0 : Int) ≤ (m : Int) := by omega
                          have hm8' : (m : Int) < 8 := by omega
                          clear hwr
                          go_wp2_with fail
                          rw [HOR.out, HAND.out]
                          apply R.wp_region_text [0, 1, 2, 3, 4, 5, 6] [7, 8, 9, 10, 11] 10 (R.Keeps [] wz)
                          case hm => kernel_rfl
                          case hB => kernel_rfl
                          case hd => rfl
                          case hQ => exact fun _ _ _ _ _ h => h
                          case hS => exact (R.Keeps.refl _ _).drew
                          case hF =>
                            intro w' hS
                            have yx := CE.out w' hS
                            clear hS
                            simp only [R.pickC, List.filterMap_cons, List.getElem?_toArray, List.getElem?_cons_zero, List.getElem?_cons_succ, List.filterMap_nil]
                            (with_reducible refine R.wpStill_plain rfl (fun K hK => ?_)); go_simp; with_reducible refine hK _ ?_; clear hK K
                            (with_reducible refine R.wpStill_plain rfl (fun K hK => ?_)); go_simp; with_reducible refine hK _ ?_; clear hK K
                            (with_reducible refine R.wpStill_plain rfl (fun K hK => ?_)); go_simp; with_reducible refine hK _ ?_; clear hK K
                            (with_reducible refine R.wpStill_plain rfl (fun K hK => ?_)); go_simp; with_reducible refine hK _ ?_; clear hK K
                            (with_reducible refine R.wpStill_plain rfl (fun K hK => ?_)); go_simp; with_reducible refine hK _ ?_; clear hK K
                            (with_reducible refine R.wpStill_plain rfl (fun K hK => ?_)); go_simp; with_reducible refine hK _ ?_; clear hK K
                            (with_reducible refine R.wpStill_plain rfl (fun K hK => ?_)); go_simp; with_reducible refine hK _ ?_; clear hK K
                            exact wpStill_nil rfl
                          case hC =>
                            simp only [R.chainOf, List.getElem?_toArray, List.getElem?_cons_zero, List.getElem?_cons_succ, Nat.reduceBNe, Bool.and_true, Bool.and_false, Bool.false_and]
                            refine R.wpSeq_same (fun K hK => ?_)
                            go_simp
                            refine (CW.out _ HKz.out.drew).mono ?_
                            rintro e w2 ⟨rfl, hB2⟩
                            have hK2 : R.Keeps [] wz w2 := ((R.Keeps.refl [] _).drew).trans (R.Keeps.of_below [] hB2) (fun k hk => by simp at hk)
                            refine hK _ _ hK2 ?_
                            clear hK K
                            have HK2 := Lib.hid hK2
                            clear hB2 hK2
                            refine R.wpSeq_same (fun K hK => ?_)
                            have hwr := HWR.out
                            go_simp
                            clear hwr
                            with_reducible refine hK _ _ HK2.out ?_
                            clear hK K
                            refine R.wpSeq_same (fun K hK => ?_)
                            go_simp
                            with_reducible refine hK _ _ HK2.out ?_
                            clear hK K
                            have hszz := HKz.out.size
                            have hltz : nb < wz.heap.size := by
                              have := HAz.out
                              rcases Nat.lt_or_ge nb wz.heap.size with h1 | h1
                              · exact h1
                              · rw [Array.getElem?_eq_none (by omega)] at this; cases this
                            have HA3 : Hid (w2.heap[nb]? = some (.cells (arr8 xs) 108 (0, 0))) := Lib.hid ((HK2.out.block _ hltz (by simp)).trans HAz.out)
                            have ff : w2.frozen? ⟨nb, m, none⟩ = false := arr_frozen HA3.out m
                            have cc : w2.cell? ⟨nb, m, none⟩ = some (.int .i64 cur) := by rw [← HCUR.out]; exact arr_cell HA3.out hm8
                            refine R.wpSeq_tail _ rfl ?_
                            simp only [List.map_cons, List.map_nil]
                            go_wp2_with fail
                            refine ⟨⟨c + 1, by go_num, by omega, ?_, ?_⟩, by simp [intOf]; omega⟩
                            · rw [HUV.out, HNEW.out]
                              exact Lib.hid (arr_set HA3.out HLEN.out hm8 (min cur (y + p)))
                            · exact Lib.hid ((HKz.out.trans HK2.out (fun k hk => by simp at hk)).setCell (fun h => by simp at h; omega) _)
                        · obtain rfl : c = 2 := by omega
                          go_wp2_with fail
                          refine ⟨⟨u + 1, by go_num, by omega, HAz, HKz⟩, by simp [intOf]; omega⟩
                    · obtain rfl : u = 8 := by omega
                      have hAq : wq.heap[nb]? = some (.cells (arr8 (nextC g h now 16)) 108 (0, 0)) := HAq.out
                      have HNX : Hid ((freeS g h (k + 1)).2 = nextC g h now 16) := Lib.hid (by rw [HN.out])
                      have HBX : Hid ((freeS g h (k + 1)).1 = bestC g h now best 8) := Lib.hid (by rw [HN.out])
                      obtain ⟨nx, hnx⟩ : ∃ nx, nextC g h now 16 = nx := ⟨_, rfl⟩
                      rw [hnx] at hAq HNX
                      clear hnx HAq
                      have z0 : wq.cell? ⟨nb, 0, none⟩ = some (.int .i64 (nx.getD 0 0)) := arr_cell hAq (by omega)
                      have z1 : wq.cell? ⟨nb, 1, none⟩ = some (.int .i64 (nx.getD 1 0)) := arr_cell hAq (by omega)
                      have z2 : wq.cell? ⟨nb, 2, none⟩ = some (.int .i64 (nx.getD 2 0)) := arr_cell hAq (by omega)
                      have z3 : wq.cell? ⟨nb, 3, none⟩ = some (.int .i64 (nx.getD 3 0)) := arr_cell hAq (by omega)
                      have z4 : wq.cell? ⟨nb, 4, none⟩ = some (.int .i64 (nx.getD 4 0)) := arr_cell hAq (by omega)
                      have z5 : wq.cell? ⟨nb, 5, none⟩ = some (.int .i64 (nx.getD 5 0)) := arr_cell hAq (by omega)
                      have z6 : wq.cell? ⟨nb, 6, none⟩ = some (.int .i64 (nx.getD 6 0)) := arr_cell hAq (by omega)
                      have z7 : wq.cell? ⟨nb, 7, none⟩ = some (.int .i64 (nx.getD 7 0)) := arr_cell hAq (by omega)
                      have hAo : wq.heap[w.heap.size + 1]? = some (.cells (arr8 now) 108 (0, 0)) := (HKq.out.block _ (by omega) (by simp)).trans HA.out
                      have HAo := Lib.hid hAo
                      have o0 : wq.cell? ⟨w.heap.size + 1, 0, none⟩ = some (.int .i64 (now.getD 0 0)) := arr_cell hAo (by omega)
                      have o1 : wq.cell? ⟨w.heap.size + 1, 1, none⟩ = some (.int .i64 (now.getD 1 0)) := arr_cell hAo (by omega)
                      have o2 : wq.cell? ⟨w.heap.size + 1, 2, none⟩ = some (.int .i64 (now.getD 2 0)) := arr_cell hAo (by omega)
                      have o3 : wq.cell? ⟨w.heap.size + 1, 3, none⟩ = some (.int .i64 (now.getD 3 0)) := arr_cell hAo (by omega)
                      have o4 : wq.cell? ⟨w.heap.size + 1, 4, none⟩ = some (.int .i64 (now.getD 4 0)) := arr_cell hAo (by omega)
                      have o5 : wq.cell? ⟨w.heap.size + 1, 5, none⟩ = some (.int .i64 (now.getD 5 0)) := arr_cell hAo (by omega)
                      have o6 : wq.cell? ⟨w.heap.size + 1, 6, none⟩ = some (.int .i64 (now.getD 6 0)) := arr_cell hAo (by omega)
                      have o7 : wq.cell? ⟨w.heap.size + 1, 7, none⟩ = some (.int .i64 (now.getD 7 0)) := arr_cell hAo (by omega)
                      have f0 : wq.frozen? ⟨w.heap.size + 1, 0, none⟩ = false := arr_frozen hAo 0
                      have f1 : wq.frozen? ⟨w.heap.size + 1, 1, none⟩ = false := arr_frozen hAo 1
                      have f2 : wq.frozen? ⟨w.heap.size + 1, 2, none⟩ = false := arr_frozen hAo 2
                      have f3 : wq.frozen? ⟨w.heap.size + 1, 3, none⟩ = false := arr_frozen hAo 3
                      have f4 : wq.frozen? ⟨w.heap.size + 1, 4, none⟩ = false := arr_frozen hAo 4
                      have f5 : wq.frozen? ⟨w.heap.size + 1, 5, none⟩ = false := arr_frozen hAo 5
                      have f6 : wq.frozen? ⟨w.heap.size + 1, 6, none⟩ = false := arr_frozen hAo 6
                      have f7 : wq.frozen? ⟨w.heap.size + 1, 7, none⟩ = false := arr_frozen hAo 7
                      clear hAq hAo
                      go_wp2_with fail
                      clear z0 z1 z2 z3 z4 z5 z6 z7
                      refine ⟨⟨k + 1, by go_num, by rw [HBX.out], by omega, ?_, ?_⟩, by simp [intOf]; omega⟩
                      · rw [HNX.out]
                        exact Lib.hid (arr_over HAo.out nx)
                      · exact Lib.hid ((((((((((HK.out.trans HKq.out (fun k hk => by simp at hk)).setCell (fun _ => by simp) _).setCell (fun _ => by simp) _).setCell (fun _ => by simp) _).setCell (fun _ => by simp) _).setCell (fun _ => by simp) _).setCell (fun _ => by simp) _).setCell (fun _ => by simp) _).setCell (fun _ => by simp) _))
        · obtain rfl : k = 64 := by omega
          go_wp2_with fail
          exact bodyPost_ret (v := .int .i64 best) (by simp [results, Try.results64, go_sem]) rfl ⟨by rw [HBE.out], HB1.out.trans (HK.out.to_below (by omega) (fun k hk => by simp at hk; omega))⟩
end Go.Proofs.Ytcpojohpmcnnhaa.A

set_option linter.unusedVariables false
set_option linter.unusedSimpArgs false
namespace Go.Proofs.Ytcpojohpmcnnhaa.PA
open Go.RowKit Go.Proofs.YtcpojohpmcnnhaaW.PrintWords Go.Proofs.YtcpojohpmcnnhaaW.PrintLast Go.Proofs.YtcpojohpmcnnhaaW.PrintMore
def code_taps_free.f (a0_0 : Int) (a0_1 : Int) : Option (Int) := if tapsOk a0_0 a0_1 then some (A.freeS a0_0.toNat a0_1.toNat 64).1 else none
theorem code_taps_free.calls (a0_0 : Int) (a0_1 : Int) (r : Int) (w : World) (h : code_taps_free.f a0_0 a0_1 = some r) :
    Calls Try.prog 64 #[.agg #[.int .i64 a0_0, .int .i64 a0_1]] w fun e w' => e = .returned (.int .i64 r) ∧ Below w.heap.size w w' := by
  unfold code_taps_free.f at h
  split at h
  · rename_i hc
    obtain ⟨h0, h1, h2, h3⟩ := hc
    obtain rfl := Option.some.inj h
    obtain ⟨g, rfl⟩ := Int.eq_ofNat_of_zero_le h0
    obtain ⟨q, rfl⟩ := Int.eq_ofNat_of_zero_le h2
    exact A.free_c g q w (by omega) (by omega)
  · cases h
end Go.Proofs.Ytcpojohpmcnnhaa.PA

namespace Go.Proofs.Ytcpojohpmcnnhaa.PA
open Go.RowKit Go.Proofs.YtcpojohpmcnnhaaW.PrintWords Go.Proofs.YtcpojohpmcnnhaaW.PrintLast Go.Proofs.YtcpojohpmcnnhaaW.PrintMore
attribute [local go_sem] max2_int min2_int max_two min_two max_three min_three max_four min_four
set_option linter.unusedVariables false
set_option linter.unusedSimpArgs false
def code_Free.f (a0 : Int) (a1 : Int) : Option (Int × Int) := (code_areTaps.f a0 a1).bind fun t150 => (if t150 = true then ((code_taps_free.f a0 a1).bind fun t151 => (some (t151, 0))) else (some (0, 2)))
set_option maxHeartbeats 8000000 in
set_option maxRecDepth 100000 in
theorem code_Free.calls (a0 : Int) (a1 : Int) (r1 : Int) (r2 : Int) (w : World) (h : code_Free.f a0 a1 = some (r1, r2)) :
  Calls Try.prog 36 #[.int .i64 a0, .int .i64 a1] w fun e w' => e = .returned (.tuple #[.int .i64 r1, .int .i64 r2]) ∧ Below w.heap.size w w' := by
 have hu77 := Try.underlying77
 have HB := Aside0.mk (Below.refl w.heap.size w)
 have H : ((code_areTaps.f a0 a1).bind fun t150 => (if t150 = true then ((code_taps_free.f a0 a1).bind fun t151 => (some (t151, 0))) else (some (0, 2)))) = some (r1, r2) := h
 clear h
 replace H := Option.bind_eq_some_iff.mp H
 obtain ⟨t150, A30, H⟩ := H
 replace H : (if t150 = true then ((code_taps_free.f a0 a1).bind fun t151 => (some (t151, 0))) else (some (0, 2))) = some (r1, r2) := H
 have A3 := Aside0.mk A30
 clear A30
 by_cases c4 : t150 = true
 ·
  subst c4
  have H1 : ((code_taps_free.f a0 a1).bind fun t151 => (some (t151, 0))) = some (r1, r2) := by rw [if_pos rfl] at H; exact H
  clear H
  have H := H1
  clear H1
  replace H := Option.bind_eq_some_iff.mp H
  obtain ⟨t151, A50, H⟩ := H
  replace H : (some (t151, 0)) = some (r1, r2) := H
  have A5 := Aside0.mk A50
  clear A50
  simp only [Option.some.injEq, Prod.mk.injEq] at H
  obtain ⟨rfl, rfl⟩ := H
  go_enter Try.func36, Try.ntmps36
  go_wp2_with (first | ((with_reducible refine gate_callee (f := 59) rfl ?_); refine goesL_ (some 8) rfl rfl Try.func59 (by kernel_rfl) rfl #[.int .i64 a0, .int .i64 a1] rfl (by (try simp only [List.map_toArray, List.map_cons, List.map_nil]); first | done | rfl | (simp only [List.length_drop, List.length_take]; rfl)) ?_; (with_reducible refine (code_areTaps.calls a0 a1 true _ A3.out).mono ?_); rintro e w' ⟨rfl, ⟨nd, rfl⟩⟩; refine ⟨_, rfl, ?_⟩) | ((with_reducible refine gate_callee (f := 64) rfl ?_); refine goesL_ (some 13) rfl rfl Try.func64 (by kernel_rfl) rfl #[.agg #[.int .i64 a0, .int .i64 a1]] rfl (by (try simp only [List.map_toArray, List.map_cons, List.map_nil]); first | done | rfl | (simp only [List.length_drop, List.length_take]; rfl)) ?_; (with_reducible refine (code_taps_free.calls a0 a1 t151 _ A5.out).mono ?_); rintro e w6 ⟨rfl, hb⟩; refine ⟨_, rfl, ?_⟩; have n0_ := Aside0.mk (below_step (by repeat (first | (with_reducible first | exact HB.out | apply below_alloc | apply pw_below_drewN | apply below_drew1) | exact HB.out)) hb); clear HB; have HB := n0_; clear n0_; (try clear hb); (try clear hb2); (try clear hk); (try clear hi)))
  go_ret2
  exact ⟨by first | rfl | (simp [errW_none, errW_some] <;> rfl) | (simp [*, errW_none, errW_some] <;> rfl), by repeat (first | (with_reducible first | exact HB.out | apply below_alloc | apply pw_below_drewN | apply below_drew1) | exact HB.out)⟩
 ·
  replace c4 := Bool.eq_false_iff.mpr c4
  subst c4
  have H1 : (some (0, 2)) = some (r1, r2) := by rw [if_neg (show ¬ (false = true) by decide)] at H; exact H
  clear H
  have H := H1
  clear H1
  simp only [Option.some.injEq, Prod.mk.injEq] at H
  obtain ⟨rfl, rfl⟩ := H
  go_enter Try.func36, Try.ntmps36
  go_wp2_with (first | ((with_reducible refine gate_callee (f := 59) rfl ?_); refine goesL_ (some 8) rfl rfl Try.func59 (by kernel_rfl) rfl #[.int .i64 a0, .int .i64 a1] rfl (by (try simp only [List.map_toArray, List.map_cons, List.map_nil]); first | done | rfl | (simp only [List.length_drop, List.length_take]; rfl)) ?_; (with_reducible refine (code_areTaps.calls a0 a1 false _ A3.out).mono ?_); rintro e w' ⟨rfl, ⟨nd, rfl⟩⟩; refine ⟨_, rfl, ?_⟩))
  go_ret2
  exact ⟨by first | rfl | (simp [errW_none, errW_some] <;> rfl) | (simp [*, errW_none, errW_some] <;> rfl), by repeat (first | (with_reducible first | exact HB.out | apply below_alloc | apply pw_below_drewN | apply below_drew1) | exact HB.out)⟩
end Go.Proofs.Ytcpojohpmcnnhaa.PA

namespace Go.Proofs.Ytcpojohpmcnnhaa.PA
open Go.RowKit Go.Proofs.YtcpojohpmcnnhaaW.PrintWords Go.Proofs.YtcpojohpmcnnhaaW.PrintLast Go.Proofs.YtcpojohpmcnnhaaW.PrintMore
attribute [local go_sem] max2_int min2_int max_two min_two max_three min_three max_four min_four
set_option linter.unusedVariables false
set_option linter.unusedSimpArgs false
def turndownlaw06_awake.j0 : Nat → Bool → Option (Bool)
 | 0, _ => none
 | k + 1, x80 => if x80 = true then (some false) else (some true)
def turndownlaw06_awake.f (k : Nat)  : Option (Bool) := (code_Best.f k (([1, 1, 2, 4] : List Int)) 32).bind fun bt155 => ((code_Code.f k (([2, 1, 2] : List Int))).bind fun bt163 => ((code_Card.f k (⟨#[49]⟩ : ByteArray) 7 5).bind fun bt167 => ((code_Read.f k (⟨#[49, 49, 49, 48, 49, 49, 48, 48]⟩ : ByteArray) 7 5).bind fun bt169 => ((code_Free.f 7 5).bind fun bt172 => (if bt155.2.2 = 0 then (if bt155.2.1 = 14 then (if bt163.2 = 0 then ((turndownlaw06_texts.f k bt163.1 (([(⟨#[49, 48]⟩ : ByteArray), (⟨#[48]⟩ : ByteArray), (⟨#[49, 49]⟩ : ByteArray)] : List ByteArray))).bind fun t177 => (if t177 = true then (if bt167.2 = 0 then (if bt167.1.toList = ([49, 49, 49, 48, 49, 49, 48, 48] : List UInt8) then (if bt169.2.2 = 0 then (if bt169.1.toList = ([49] : List UInt8) then (if bt169.2.1 = 0 then (if bt172.2 = 0 then (turndownlaw06_awake.j0 k (bt172.1 != 5)) else (turndownlaw06_awake.j0 k true)) else (turndownlaw06_awake.j0 k true)) else (turndownlaw06_awake.j0 k true)) else (turndownlaw06_awake.j0 k true)) else (turndownlaw06_awake.j0 k true)) else (turndownlaw06_awake.j0 k true)) else (turndownlaw06_awake.j0 k true))) else (turndownlaw06_awake.j0 k true)) else (turndownlaw06_awake.j0 k true)) else (turndownlaw06_awake.j0 k true))))))
theorem turndownlaw06_awake.mono_l : ∀ k, (∀ y0, LeO (turndownlaw06_awake.j0 k y0) (turndownlaw06_awake.j0 (k + 1) y0))
 | 0 => fun _ r h => by simp [turndownlaw06_awake.j0] at h
 | k + 1 => by
  have ih0 := turndownlaw06_awake.mono_l k
  ·
   intro y0
   unfold turndownlaw06_awake.j0
   repeat' first
   | (with_reducible exact ih0 _)
   | (with_reducible exact code_Best.mono _ _ _)
   | (with_reducible exact code_Card.mono _ _ _ _)
   | (with_reducible exact code_Code.mono _ _)
   | (with_reducible exact code_Read.mono _ _ _ _)
   | (with_reducible exact turndownlaw06_texts.mono _ _ _)
   | (with_reducible exact LeO.refl _)
   | (with_reducible exact LeO.none _)
   | (with_reducible refine LeO.ite ?_ ?_)
   | (with_reducible refine LeO.bind ?_ (fun _ => ?_))
   | exact ih0 _
   | exact code_Best.mono _ _ _
   | exact code_Card.mono _ _ _ _
   | exact code_Code.mono _ _
   | exact code_Read.mono _ _ _ _
   | exact turndownlaw06_texts.mono _ _ _
   | exact LeO.none _
   | refine LeO.ite ?_ ?_
   | refine LeO.bind ?_ (fun _ => ?_)
theorem turndownlaw06_awake.mono : ∀ k, LeO (turndownlaw06_awake.f k ) (turndownlaw06_awake.f (k + 1) ) := by
 intro  k
 have ih0 := turndownlaw06_awake.mono_l k
 unfold turndownlaw06_awake.f
 repeat' first
   | (with_reducible exact ih0 _)
   | (with_reducible exact code_Best.mono _ _ _)
   | (with_reducible exact code_Card.mono _ _ _ _)
   | (with_reducible exact code_Code.mono _ _)
   | (with_reducible exact code_Read.mono _ _ _ _)
   | (with_reducible exact turndownlaw06_texts.mono _ _ _)
   | (with_reducible exact LeO.refl _)
   | (with_reducible exact LeO.none _)
   | (with_reducible refine LeO.ite ?_ ?_)
   | (with_reducible refine LeO.bind ?_ (fun _ => ?_))
   | exact ih0 _
   | exact code_Best.mono _ _ _
   | exact code_Card.mono _ _ _ _
   | exact code_Code.mono _ _
   | exact code_Read.mono _ _ _ _
   | exact turndownlaw06_texts.mono _ _ _
   | exact LeO.none _
   | refine LeO.ite ?_ ?_
   | refine LeO.bind ?_ (fun _ => ?_)
set_option maxHeartbeats 8000000 in
set_option maxRecDepth 100000 in
theorem turndownlaw06_awake.calls (k : Nat)  (r : Bool) (w : World) (h : turndownlaw06_awake.f k  = some r) :
  Calls Try.prog 22 #[] w fun e w' => e = .returned (.bool r) ∧ Below w.heap.size w w' := by
 have HB := Aside0.mk (Below.refl w.heap.size w)
 have H : ((code_Best.f k (([1, 1, 2, 4] : List Int)) 32).bind fun bt155 => ((code_Code.f k (([2, 1, 2] : List Int))).bind fun bt163 => ((code_Card.f k (⟨#[49]⟩ : ByteArray) 7 5).bind fun bt167 => ((code_Read.f k (⟨#[49, 49, 49, 48, 49, 49, 48, 48]⟩ : ByteArray) 7 5).bind fun bt169 => ((code_Free.f 7 5).bind fun bt172 => (if bt155.2.2 = 0 then (if bt155.2.1 = 14 then (if bt163.2 = 0 then ((turndownlaw06_texts.f k bt163.1 (([(⟨#[49, 48]⟩ : ByteArray), (⟨#[48]⟩ : ByteArray), (⟨#[49, 49]⟩ : ByteArray)] : List ByteArray))).bind fun t177 => (if t177 = true then (if bt167.2 = 0 then (if bt167.1.toList = ([49, 49, 49, 48, 49, 49, 48, 48] : List UInt8) then (if bt169.2.2 = 0 then (if bt169.1.toList = ([49] : List UInt8) then (if bt169.2.1 = 0 then (if bt172.2 = 0 then (turndownlaw06_awake.j0 k (bt172.1 != 5)) else (turndownlaw06_awake.j0 k true)) else (turndownlaw06_awake.j0 k true)) else (turndownlaw06_awake.j0 k true)) else (turndownlaw06_awake.j0 k true)) else (turndownlaw06_awake.j0 k true)) else (turndownlaw06_awake.j0 k true)) else (turndownlaw06_awake.j0 k true))) else (turndownlaw06_awake.j0 k true)) else (turndownlaw06_awake.j0 k true)) else (turndownlaw06_awake.j0 k true))))))) = some r := h
 clear h
 obtain ⟨y152, hy152⟩ : ∃ y_ : List Int, y_ = (([1, 1, 2, 4] : List Int)) := ⟨_, rfl⟩
 replace H : ((code_Best.f k y152 32).bind fun bt155 => ((code_Code.f k (([2, 1, 2] : List Int))).bind fun bt163 => ((code_Card.f k (⟨#[49]⟩ : ByteArray) 7 5).bind fun bt167 => ((code_Read.f k (⟨#[49, 49, 49, 48, 49, 49, 48, 48]⟩ : ByteArray) 7 5).bind fun bt169 => ((code_Free.f 7 5).bind fun bt172 => (if bt155.2.2 = 0 then (if bt155.2.1 = 14 then (if bt163.2 = 0 then ((turndownlaw06_texts.f k bt163.1 (([(⟨#[49, 48]⟩ : ByteArray), (⟨#[48]⟩ : ByteArray), (⟨#[49, 49]⟩ : ByteArray)] : List ByteArray))).bind fun t177 => (if t177 = true then (if bt167.2 = 0 then (if bt167.1.toList = ([49, 49, 49, 48, 49, 49, 48, 48] : List UInt8) then (if bt169.2.2 = 0 then (if bt169.1.toList = ([49] : List UInt8) then (if bt169.2.1 = 0 then (if bt172.2 = 0 then (turndownlaw06_awake.j0 k (bt172.1 != 5)) else (turndownlaw06_awake.j0 k true)) else (turndownlaw06_awake.j0 k true)) else (turndownlaw06_awake.j0 k true)) else (turndownlaw06_awake.j0 k true)) else (turndownlaw06_awake.j0 k true)) else (turndownlaw06_awake.j0 k true)) else (turndownlaw06_awake.j0 k true))) else (turndownlaw06_awake.j0 k true)) else (turndownlaw06_awake.j0 k true)) else (turndownlaw06_awake.j0 k true))))))) = some r := by first | (rw [hy152]; with_reducible exact H) | (have H2_ := (Option.bind_some _ _).symm.trans H; rw [hy152]; with_reducible exact H2_) | (have H2_ := (Option.bind_some _ _).symm.trans H; with_reducible exact H2_) | with_reducible exact H | (rw [hy152]; exact H) | exact H
 have Ny152 := Aside0.mk hy152
 clear hy152
 replace H := Option.bind_eq_some_iff.mp H
 obtain ⟨⟨t155, t156, t157⟩, A10, H⟩ := H
 replace H : ((code_Code.f k (([2, 1, 2] : List Int))).bind fun bt163 => ((code_Card.f k (⟨#[49]⟩ : ByteArray) 7 5).bind fun bt167 => ((code_Read.f k (⟨#[49, 49, 49, 48, 49, 49, 48, 48]⟩ : ByteArray) 7 5).bind fun bt169 => ((code_Free.f 7 5).bind fun bt172 => (if t157 = 0 then (if t156 = 14 then (if bt163.2 = 0 then ((turndownlaw06_texts.f k bt163.1 (([(⟨#[49, 48]⟩ : ByteArray), (⟨#[48]⟩ : ByteArray), (⟨#[49, 49]⟩ : ByteArray)] : List ByteArray))).bind fun t177 => (if t177 = true then (if bt167.2 = 0 then (if bt167.1.toList = ([49, 49, 49, 48, 49, 49, 48, 48] : List UInt8) then (if bt169.2.2 = 0 then (if bt169.1.toList = ([49] : List UInt8) then (if bt169.2.1 = 0 then (if bt172.2 = 0 then (turndownlaw06_awake.j0 k (bt172.1 != 5)) else (turndownlaw06_awake.j0 k true)) else (turndownlaw06_awake.j0 k true)) else (turndownlaw06_awake.j0 k true)) else (turndownlaw06_awake.j0 k true)) else (turndownlaw06_awake.j0 k true)) else (turndownlaw06_awake.j0 k true)) else (turndownlaw06_awake.j0 k true))) else (turndownlaw06_awake.j0 k true)) else (turndownlaw06_awake.j0 k true)) else (turndownlaw06_awake.j0 k true)))))) = some r := H
 have A1 := Aside0.mk A10
 clear A10
 obtain ⟨y160, hy160⟩ : ∃ y_ : List Int, y_ = (([2, 1, 2] : List Int)) := ⟨_, rfl⟩
 replace H : ((code_Code.f k y160).bind fun bt163 => ((code_Card.f k (⟨#[49]⟩ : ByteArray) 7 5).bind fun bt167 => ((code_Read.f k (⟨#[49, 49, 49, 48, 49, 49, 48, 48]⟩ : ByteArray) 7 5).bind fun bt169 => ((code_Free.f 7 5).bind fun bt172 => (if t157 = 0 then (if t156 = 14 then (if bt163.2 = 0 then ((turndownlaw06_texts.f k bt163.1 (([(⟨#[49, 48]⟩ : ByteArray), (⟨#[48]⟩ : ByteArray), (⟨#[49, 49]⟩ : ByteArray)] : List ByteArray))).bind fun t177 => (if t177 = true then (if bt167.2 = 0 then (if bt167.1.toList = ([49, 49, 49, 48, 49, 49, 48, 48] : List UInt8) then (if bt169.2.2 = 0 then (if bt169.1.toList = ([49] : List UInt8) then (if bt169.2.1 = 0 then (if bt172.2 = 0 then (turndownlaw06_awake.j0 k (bt172.1 != 5)) else (turndownlaw06_awake.j0 k true)) else (turndownlaw06_awake.j0 k true)) else (turndownlaw06_awake.j0 k true)) else (turndownlaw06_awake.j0 k true)) else (turndownlaw06_awake.j0 k true)) else (turndownlaw06_awake.j0 k true)) else (turndownlaw06_awake.j0 k true))) else (turndownlaw06_awake.j0 k true)) else (turndownlaw06_awake.j0 k true)) else (turndownlaw06_awake.j0 k true)))))) = some r := by first | (rw [hy160]; with_reducible exact H) | (have H2_ := (Option.bind_some _ _).symm.trans H; rw [hy160]; with_reducible exact H2_) | (have H2_ := (Option.bind_some _ _).symm.trans H; with_reducible exact H2_) | with_reducible exact H | (rw [hy160]; exact H) | exact H
 have Ny160 := Aside0.mk hy160
 clear hy160
 replace H := Option.bind_eq_some_iff.mp H
 obtain ⟨⟨t163, t164⟩, A20, H⟩ := H
 replace H : ((code_Card.f k (⟨#[49]⟩ : ByteArray) 7 5).bind fun bt167 => ((code_Read.f k (⟨#[49, 49, 49, 48, 49, 49, 48, 48]⟩ : ByteArray) 7 5).bind fun bt169 => ((code_Free.f 7 5).bind fun bt172 => (if t157 = 0 then (if t156 = 14 then (if t164 = 0 then ((turndownlaw06_texts.f k t163 (([(⟨#[49, 48]⟩ : ByteArray), (⟨#[48]⟩ : ByteArray), (⟨#[49, 49]⟩ : ByteArray)] : List ByteArray))).bind fun t177 => (if t177 = true then (if bt167.2 = 0 then (if bt167.1.toList = ([49, 49, 49, 48, 49, 49, 48, 48] : List UInt8) then (if bt169.2.2 = 0 then (if bt169.1.toList = ([49] : List UInt8) then (if bt169.2.1 = 0 then (if bt172.2 = 0 then (turndownlaw06_awake.j0 k (bt172.1 != 5)) else (turndownlaw06_awake.j0 k true)) else (turndownlaw06_awake.j0 k true)) else (turndownlaw06_awake.j0 k true)) else (turndownlaw06_awake.j0 k true)) else (turndownlaw06_awake.j0 k true)) else (turndownlaw06_awake.j0 k true)) else (turndownlaw06_awake.j0 k true))) else (turndownlaw06_awake.j0 k true)) else (turndownlaw06_awake.j0 k true)) else (turndownlaw06_awake.j0 k true))))) = some r := H
 have A2 := Aside0.mk A20
 clear A20
 replace H := Option.bind_eq_some_iff.mp H
 obtain ⟨⟨t167, t168⟩, A30, H⟩ := H
 replace H : ((code_Read.f k (⟨#[49, 49, 49, 48, 49, 49, 48, 48]⟩ : ByteArray) 7 5).bind fun bt169 => ((code_Free.f 7 5).bind fun bt172 => (if t157 = 0 then (if t156 = 14 then (if t164 = 0 then ((turndownlaw06_texts.f k t163 (([(⟨#[49, 48]⟩ : ByteArray), (⟨#[48]⟩ : ByteArray), (⟨#[49, 49]⟩ : ByteArray)] : List ByteArray))).bind fun t177 => (if t177 = true then (if t168 = 0 then (if t167.toList = ([49, 49, 49, 48, 49, 49, 48, 48] : List UInt8) then (if bt169.2.2 = 0 then (if bt169.1.toList = ([49] : List UInt8) then (if bt169.2.1 = 0 then (if bt172.2 = 0 then (turndownlaw06_awake.j0 k (bt172.1 != 5)) else (turndownlaw06_awake.j0 k true)) else (turndownlaw06_awake.j0 k true)) else (turndownlaw06_awake.j0 k true)) else (turndownlaw06_awake.j0 k true)) else (turndownlaw06_awake.j0 k true)) else (turndownlaw06_awake.j0 k true)) else (turndownlaw06_awake.j0 k true))) else (turndownlaw06_awake.j0 k true)) else (turndownlaw06_awake.j0 k true)) else (turndownlaw06_awake.j0 k true)))) = some r := H
 have A3 := Aside0.mk A30
 clear A30
 replace H := Option.bind_eq_some_iff.mp H
 obtain ⟨⟨t169, t170, t171⟩, A40, H⟩ := H
 replace H : ((code_Free.f 7 5).bind fun bt172 => (if t157 = 0 then (if t156 = 14 then (if t164 = 0 then ((turndownlaw06_texts.f k t163 (([(⟨#[49, 48]⟩ : ByteArray), (⟨#[48]⟩ : ByteArray), (⟨#[49, 49]⟩ : ByteArray)] : List ByteArray))).bind fun t177 => (if t177 = true then (if t168 = 0 then (if t167.toList = ([49, 49, 49, 48, 49, 49, 48, 48] : List UInt8) then (if t171 = 0 then (if t169.toList = ([49] : List UInt8) then (if t170 = 0 then (if bt172.2 = 0 then (turndownlaw06_awake.j0 k (bt172.1 != 5)) else (turndownlaw06_awake.j0 k true)) else (turndownlaw06_awake.j0 k true)) else (turndownlaw06_awake.j0 k true)) else (turndownlaw06_awake.j0 k true)) else (turndownlaw06_awake.j0 k true)) else (turndownlaw06_awake.j0 k true)) else (turndownlaw06_awake.j0 k true))) else (turndownlaw06_awake.j0 k true)) else (turndownlaw06_awake.j0 k true)) else (turndownlaw06_awake.j0 k true))) = some r := H
 have A4 := Aside0.mk A40
 clear A40
 replace H := Option.bind_eq_some_iff.mp H
 obtain ⟨⟨t172, t173⟩, A50, H⟩ := H
 replace H : (if t157 = 0 then (if t156 = 14 then (if t164 = 0 then ((turndownlaw06_texts.f k t163 (([(⟨#[49, 48]⟩ : ByteArray), (⟨#[48]⟩ : ByteArray), (⟨#[49, 49]⟩ : ByteArray)] : List ByteArray))).bind fun t177 => (if t177 = true then (if t168 = 0 then (if t167.toList = ([49, 49, 49, 48, 49, 49, 48, 48] : List UInt8) then (if t171 = 0 then (if t169.toList = ([49] : List UInt8) then (if t170 = 0 then (if t173 = 0 then (turndownlaw06_awake.j0 k (t172 != 5)) else (turndownlaw06_awake.j0 k true)) else (turndownlaw06_awake.j0 k true)) else (turndownlaw06_awake.j0 k true)) else (turndownlaw06_awake.j0 k true)) else (turndownlaw06_awake.j0 k true)) else (turndownlaw06_awake.j0 k true)) else (turndownlaw06_awake.j0 k true))) else (turndownlaw06_awake.j0 k true)) else (turndownlaw06_awake.j0 k true)) else (turndownlaw06_awake.j0 k true)) = some r := H
 have A5 := Aside0.mk A50
 clear A50
 have HC6 := Aside0.mk H
 clear H
 go_enter Try.func22, Try.ntmps22
 go_upto_region 6 with (first | ((with_reducible refine gate_dst (N := 14) rfl ?_); (try (refine gate_guard (by rfl) ?_; dsimp only)); refine Kd.R_lit (Kd.int .i64) _ 3 ?hg (N := 14) ?hd (xs := ([1, 1, 2, 4] : List Int)) (inner := [.int .i64 1, .int .i64 1, .int .i64 2, .int .i64 4]) (ok := fun _ => True) (okp := fun _ => True) ?hr ?hp (fun _ hk => hk) trivial (Below.refl _ _) (Nat.le_refl _) (by simp) ?_; (case hd => rfl); (case hg => rfl); (case hr => first | (go_simp; done) | (go_simp; rfl)); (case hp => exact (Reps.one (show Kd.M (Kd.int .i64) _ _ _ 1 [.int .i64 1] from rfl) (Reps.one (show Kd.M (Kd.int .i64) _ _ _ 1 [.int .i64 1] from rfl) (Reps.one (show Kd.M (Kd.int .i64) _ _ _ 2 [.int .i64 2] from rfl) (Reps.one (show Kd.M (Kd.int .i64) _ _ _ 4 [.int .i64 4] from rfl) (Reps.none _ _)))))); intro v153 w7 ho8 hb hg_ hnew_; clear hg_ hnew_; (first | rw [← Ny152.out] at ho8 | (simp only [Int.reduceToNat] at ho8; rw [← Ny152.out] at ho8)); have n0_ := Aside0.mk (Kd.R_lower ho8 (below_size (by repeat (first | (with_reducible first | exact HB.out | apply below_alloc | apply pw_below_drewN | apply below_drew1) | exact HB.out)))); have n1_ := Aside0.mk (below_step (by repeat (first | (with_reducible first | exact HB.out | apply below_alloc | apply pw_below_drewN | apply below_drew1) | exact HB.out)) hb); clear HB; have HO154 := n0_; have HB := n1_; clear n0_ n1_; clear hb ho8; obtain ⟨Ao9, co9, eo9⟩ := Kd.R_slice HO154.out; subst eo9) | ((with_reducible refine gate_callee (f := 20) rfl ?_); refine goesL_ (some 15) rfl rfl Try.func20 (by kernel_rfl) rfl #[.slice Ao9 y152.length co9, .int .i64 32] rfl (by (try simp only [List.map_toArray, List.map_cons, List.map_nil]); first | done | rfl | (simp only [List.length_drop, List.length_take]; rfl)) ?_; (with_reducible refine (code_Best.calls k _ _ y152 32 t155 t156 t157 _ ?side1 ?side2 A1.out).mono ?_); (case side1 => repeat (first | exact (Kd.R_reads' HO154.out).2.2 | (with_reducible refine Kd.C_alloc ?_ _) | (with_reducible refine Kd.C_drewN ?_ _) | (with_reducible refine Kd.C_drew ?_))); (case side2 => exact (Kd.R_reads' HO154.out).2.1); rintro e w10 ⟨v158, rfl, ho0, hb⟩; refine ⟨_, rfl, ?_⟩; have n0_ := Aside0.mk (Kd.R_elder' (by (with_reducible repeat (first | apply Kd.R_alloc | apply Kd.R_drewN | apply Kd.R_drew)); exact HO154.out) (Kd.R_base ho0) hb); have n1_ := Aside0.mk (Kd.R_lower (Kd.R_new' ho0 (Kd.R_lt (by (with_reducible repeat (first | apply Kd.R_alloc | apply Kd.R_drewN | apply Kd.R_drew)); exact HO154.out))) (below_size (by repeat (first | (with_reducible first | exact HB.out | apply below_alloc | apply pw_below_drewN | apply below_drew1) | exact HB.out)))); have n2_ := Aside0.mk (below_step (by repeat (first | (with_reducible first | exact HB.out | apply below_alloc | apply pw_below_drewN | apply below_drew1) | exact HB.out)) hb); clear HO154; clear HB; have HO154 := n0_; have HO159 := n1_; have HB := n2_; clear n0_ n1_ n2_; (try clear hb); (try clear hb2); (try clear hk); (try clear hi); (try clear ho0)) | ((with_reducible refine gate_dst (N := 20) rfl ?_); (try (refine gate_guard (by rfl) ?_; dsimp only)); refine Kd.R_lit (Kd.int .i64) _ 3 ?hg (N := 20) ?hd (xs := ([2, 1, 2] : List Int)) (inner := [.int .i64 2, .int .i64 1, .int .i64 2]) (ok := fun _ => True) (okp := fun _ => True) ?hr ?hp (fun _ hk => hk) trivial (Below.refl _ _) (Nat.le_refl _) (by simp) ?_; (case hd => rfl); (case hg => rfl); (case hr => first | (go_simp; done) | (go_simp; rfl)); (case hp => exact (Reps.one (show Kd.M (Kd.int .i64) _ _ _ 2 [.int .i64 2] from rfl) (Reps.one (show Kd.M (Kd.int .i64) _ _ _ 1 [.int .i64 1] from rfl) (Reps.one (show Kd.M (Kd.int .i64) _ _ _ 2 [.int .i64 2] from rfl) (Reps.none _ _))))); intro v161 w11 ho12 hb hg_ hnew_; clear hg_ hnew_; (first | rw [← Ny160.out] at ho12 | (simp only [Int.reduceToNat] at ho12; rw [← Ny160.out] at ho12)); have n0_ := Aside0.mk (Kd.R_elder' (by (with_reducible repeat (first | apply Kd.R_alloc | apply Kd.R_drewN | apply Kd.R_drew)); exact HO154.out) (Kd.R_base ho12) hb); have n1_ := Aside0.mk (Kd.R_elder' (by (with_reducible repeat (first | apply Kd.R_alloc | apply Kd.R_drewN | apply Kd.R_drew)); exact HO159.out) (Kd.R_base ho12) hb); have n2_ := Aside0.mk (Kd.R_lower (Kd.R_new' (Kd.R_new' ho12 (Kd.R_lt (by (with_reducible repeat (first | apply Kd.R_alloc | apply Kd.R_drewN | apply Kd.R_drew)); exact HO154.out))) (Kd.R_lt (by (with_reducible repeat (first | apply Kd.R_alloc | apply Kd.R_drewN | apply Kd.R_drew)); exact HO159.out))) (below_size (by repeat (first | (with_reducible first | exact HB.out | apply below_alloc | apply pw_below_drewN | apply below_drew1) | exact HB.out)))); have n3_ := Aside0.mk (below_step (by repeat (first | (with_reducible first | exact HB.out | apply below_alloc | apply pw_below_drewN | apply below_drew1) | exact HB.out)) hb); clear HO154; clear HO159; clear HB; have HO154 := n0_; have HO159 := n1_; have HO162 := n2_; have HB := n3_; clear n0_ n1_ n2_ n3_; clear hb ho12; obtain ⟨Ao13, co13, eo13⟩ := Kd.R_slice HO162.out; subst eo13) | ((with_reducible refine gate_callee (f := 27) rfl ?_); refine goesL_ (some 21) rfl rfl Try.func27 (by kernel_rfl) rfl #[.slice Ao13 y160.length co13] rfl (by (try simp only [List.map_toArray, List.map_cons, List.map_nil]); first | done | rfl | (simp only [List.length_drop, List.length_take]; rfl)) ?_; (with_reducible refine (code_Code.calls k _ _ y160 t163 t164 _ ?side1 ?side2 A2.out).mono ?_); (case side1 => repeat (first | exact (Kd.R_reads' HO162.out).2.2 | (with_reducible refine Kd.C_alloc ?_ _) | (with_reducible refine Kd.C_drewN ?_ _) | (with_reducible refine Kd.C_drew ?_))); (case side2 => exact (Kd.R_reads' HO162.out).2.1); rintro e w14 ⟨v165, rfl, ho0, hb⟩; refine ⟨_, rfl, ?_⟩; have n0_ := Aside0.mk (Kd.R_below (by (with_reducible repeat (first | apply Kd.R_alloc | apply Kd.R_drewN | apply Kd.R_drew)); exact HO154.out) hb); have n1_ := Aside0.mk (Kd.R_below (by (with_reducible repeat (first | apply Kd.R_alloc | apply Kd.R_drewN | apply Kd.R_drew)); exact HO159.out) hb); have n2_ := Aside0.mk (Kd.R_below (by (with_reducible repeat (first | apply Kd.R_alloc | apply Kd.R_drewN | apply Kd.R_drew)); exact HO162.out) hb); have n3_ := Aside0.mk (Kd.R_lower ho0 (below_size (by repeat (first | (with_reducible first | exact HB.out | apply below_alloc | apply pw_below_drewN | apply below_drew1) | exact HB.out)))); have n4_ := Aside0.mk (below_step (by repeat (first | (with_reducible first | exact HB.out | apply below_alloc | apply pw_below_drewN | apply below_drew1) | exact HB.out)) hb); clear HO154; clear HO159; clear HO162; clear HB; have HO154 := n0_; have HO159 := n1_; have HO162 := n2_; have HO166 := n3_; have HB := n4_; clear n0_ n1_ n2_ n3_ n4_; (try clear hb); (try clear hb2); (try clear hk); (try clear hi); (try clear ho0)) | ((with_reducible refine gate_callee (f := 30) rfl ?_); refine goesL_ (some 25) rfl rfl Try.func30 (by kernel_rfl) rfl #[.string (⟨#[49]⟩ : ByteArray), .int .i64 7, .int .i64 5] rfl (by (try simp only [List.map_toArray, List.map_cons, List.map_nil]); first | done | rfl | (simp only [List.length_drop, List.length_take]; rfl)) ?_; (with_reducible refine (code_Card.calls k (⟨#[49]⟩ : ByteArray) 7 5 t167 t168 _ A3.out).mono ?_); rintro e w15 ⟨rfl, hb⟩; refine ⟨_, rfl, ?_⟩; have n0_ := Aside0.mk (Kd.R_below (by (with_reducible repeat (first | apply Kd.R_alloc | apply Kd.R_drewN | apply Kd.R_drew)); exact HO154.out) hb); have n1_ := Aside0.mk (Kd.R_below (by (with_reducible repeat (first | apply Kd.R_alloc | apply Kd.R_drewN | apply Kd.R_drew)); exact HO159.out) hb); have n2_ := Aside0.mk (Kd.R_below (by (with_reducible repeat (first | apply Kd.R_alloc | apply Kd.R_drewN | apply Kd.R_drew)); exact HO162.out) hb); have n3_ := Aside0.mk (Kd.R_below (by (with_reducible repeat (first | apply Kd.R_alloc | apply Kd.R_drewN | apply Kd.R_drew)); exact HO166.out) hb); have n4_ := Aside0.mk (below_step (by repeat (first | (with_reducible first | exact HB.out | apply below_alloc | apply pw_below_drewN | apply below_drew1) | exact HB.out)) hb); clear HO154; clear HO159; clear HO162; clear HO166; clear HB; have HO154 := n0_; have HO159 := n1_; have HO162 := n2_; have HO166 := n3_; have HB := n4_; clear n0_ n1_ n2_ n3_ n4_; (try clear hb); (try clear hb2); (try clear hk); (try clear hi)) | ((with_reducible refine gate_callee (f := 34) rfl ?_); refine goesL_ (some 29) rfl rfl Try.func34 (by kernel_rfl) rfl #[.string (⟨#[49, 49, 49, 48, 49, 49, 48, 48]⟩ : ByteArray), .int .i64 7, .int .i64 5] rfl (by (try simp only [List.map_toArray, List.map_cons, List.map_nil]); first | done | rfl | (simp only [List.length_drop, List.length_take]; rfl)) ?_; (with_reducible refine (code_Read.calls k (⟨#[49, 49, 49, 48, 49, 49, 48, 48]⟩ : ByteArray) 7 5 t169 t170 t171 _ A4.out).mono ?_); rintro e w16 ⟨rfl, hb⟩; refine ⟨_, rfl, ?_⟩; have n0_ := Aside0.mk (Kd.R_below (by (with_reducible repeat (first | apply Kd.R_alloc | apply Kd.R_drewN | apply Kd.R_drew)); exact HO154.out) hb); have n1_ := Aside0.mk (Kd.R_below (by (with_reducible repeat (first | apply Kd.R_alloc | apply Kd.R_drewN | apply Kd.R_drew)); exact HO159.out) hb); have n2_ := Aside0.mk (Kd.R_below (by (with_reducible repeat (first | apply Kd.R_alloc | apply Kd.R_drewN | apply Kd.R_drew)); exact HO162.out) hb); have n3_ := Aside0.mk (Kd.R_below (by (with_reducible repeat (first | apply Kd.R_alloc | apply Kd.R_drewN | apply Kd.R_drew)); exact HO166.out) hb); have n4_ := Aside0.mk (below_step (by repeat (first | (with_reducible first | exact HB.out | apply below_alloc | apply pw_below_drewN | apply below_drew1) | exact HB.out)) hb); clear HO154; clear HO159; clear HO162; clear HO166; clear HB; have HO154 := n0_; have HO159 := n1_; have HO162 := n2_; have HO166 := n3_; have HB := n4_; clear n0_ n1_ n2_ n3_ n4_; (try clear hb); (try clear hb2); (try clear hk); (try clear hi)) | ((with_reducible refine gate_callee (f := 36) rfl ?_); refine goesL_ (some 34) rfl rfl Try.func36 (by kernel_rfl) rfl #[.int .i64 7, .int .i64 5] rfl (by (try simp only [List.map_toArray, List.map_cons, List.map_nil]); first | done | rfl | (simp only [List.length_drop, List.length_take]; rfl)) ?_; (with_reducible refine (code_Free.calls 7 5 t172 t173 _ A5.out).mono ?_); rintro e w17 ⟨rfl, hb⟩; refine ⟨_, rfl, ?_⟩; have n0_ := Aside0.mk (Kd.R_below (by (with_reducible repeat (first | apply Kd.R_alloc | apply Kd.R_drewN | apply Kd.R_drew)); exact HO154.out) hb); have n1_ := Aside0.mk (Kd.R_below (by (with_reducible repeat (first | apply Kd.R_alloc | apply Kd.R_drewN | apply Kd.R_drew)); exact HO159.out) hb); have n2_ := Aside0.mk (Kd.R_below (by (with_reducible repeat (first | apply Kd.R_alloc | apply Kd.R_drewN | apply Kd.R_drew)); exact HO162.out) hb); have n3_ := Aside0.mk (Kd.R_below (by (with_reducible repeat (first | apply Kd.R_alloc | apply Kd.R_drewN | apply Kd.R_drew)); exact HO166.out) hb); have n4_ := Aside0.mk (below_step (by repeat (first | (with_reducible first | exact HB.out | apply below_alloc | apply pw_below_drewN | apply below_drew1) | exact HB.out)) hb); clear HO154; clear HO159; clear HO162; clear HO166; clear HB; have HO154 := n0_; have HO159 := n1_; have HO162 := n2_; have HO166 := n3_; have HB := n4_; clear n0_ n1_ n2_ n3_ n4_; (try clear hb); (try clear hb2); (try clear hk); (try clear hi)))
 (try simp only [Act.put, List.setIfInBounds_toArray, List.set_cons_zero, List.set_cons_succ])
 go_cut [80] (fun v80 wc => ∃ (kq : Nat) (x80_5 : Bool), v80 = .bool x80_5 ∧ Aside0 (turndownlaw06_awake.j0 kq x80_5 = some r) ∧ Aside0 (kq ≤ k) ∧ Aside0 (Below w.heap.size w wc))
 case first =>
  have H := HC6.out
  clear HC6
  by_cases c18 : t157 = 0
  ·
   rw [if_pos c18] at H
   have c18b0 : (t157 == 0) = true := beq_iff_eq.mpr c18
   have c18b1 : (t157 != 0) = false := bne_eq_false_iff_eq.mpr c18
   clear c18
   (first | rw [c18b0] | (simp only [i64_w, i32_w]; rw [c18b0]) | skip)
   by_cases c19 : t156 = 14
   ·
    rw [if_pos c19] at H
    have c19b0 : (t156 == 14) = true := beq_iff_eq.mpr c19
    have c19b1 : (t156 != 14) = false := bne_eq_false_iff_eq.mpr c19
    clear c19
    by_cases c20 : t164 = 0
    ·
     rw [if_pos c20] at H
     have c20b0 : (t164 == 0) = true := beq_iff_eq.mpr c20
     have c20b1 : (t164 != 0) = false := bne_eq_false_iff_eq.mpr c20
     clear c20
     obtain ⟨y174, hy174⟩ : ∃ y_ : List ByteArray, y_ = (([(⟨#[49, 48]⟩ : ByteArray), (⟨#[48]⟩ : ByteArray), (⟨#[49, 49]⟩ : ByteArray)] : List ByteArray)) := ⟨_, rfl⟩
     replace H : ((turndownlaw06_texts.f k t163 y174).bind fun t177 => (if t177 = true then (if t168 = 0 then (if t167.toList = ([49, 49, 49, 48, 49, 49, 48, 48] : List UInt8) then (if t171 = 0 then (if t169.toList = ([49] : List UInt8) then (if t170 = 0 then (if t173 = 0 then (turndownlaw06_awake.j0 k (t172 != 5)) else (turndownlaw06_awake.j0 k true)) else (turndownlaw06_awake.j0 k true)) else (turndownlaw06_awake.j0 k true)) else (turndownlaw06_awake.j0 k true)) else (turndownlaw06_awake.j0 k true)) else (turndownlaw06_awake.j0 k true)) else (turndownlaw06_awake.j0 k true))) = some r := by first | (rw [hy174]; with_reducible exact H) | (have H2_ := (Option.bind_some _ _).symm.trans H; rw [hy174]; with_reducible exact H2_) | (have H2_ := (Option.bind_some _ _).symm.trans H; with_reducible exact H2_) | with_reducible exact H | (rw [hy174]; exact H) | exact H
     have Ny174 := Aside0.mk hy174
     clear hy174
     replace H := Option.bind_eq_some_iff.mp H
     obtain ⟨t177, A210, H⟩ := H
     replace H : (if t177 = true then (if t168 = 0 then (if t167.toList = ([49, 49, 49, 48, 49, 49, 48, 48] : List UInt8) then (if t171 = 0 then (if t169.toList = ([49] : List UInt8) then (if t170 = 0 then (if t173 = 0 then (turndownlaw06_awake.j0 k (t172 != 5)) else (turndownlaw06_awake.j0 k true)) else (turndownlaw06_awake.j0 k true)) else (turndownlaw06_awake.j0 k true)) else (turndownlaw06_awake.j0 k true)) else (turndownlaw06_awake.j0 k true)) else (turndownlaw06_awake.j0 k true)) else (turndownlaw06_awake.j0 k true)) = some r := H
     have A21 := Aside0.mk A210
     clear A210
     by_cases c22 : t177 = true
     ·
      subst c22
      have H1 : (if t168 = 0 then (if t167.toList = ([49, 49, 49, 48, 49, 49, 48, 48] : List UInt8) then (if t171 = 0 then (if t169.toList = ([49] : List UInt8) then (if t170 = 0 then (if t173 = 0 then (turndownlaw06_awake.j0 k (t172 != 5)) else (turndownlaw06_awake.j0 k true)) else (turndownlaw06_awake.j0 k true)) else (turndownlaw06_awake.j0 k true)) else (turndownlaw06_awake.j0 k true)) else (turndownlaw06_awake.j0 k true)) else (turndownlaw06_awake.j0 k true)) = some r := by rw [if_pos rfl] at H; exact H
      clear H
      have H := H1
      clear H1
      by_cases c23 : t168 = 0
      ·
       rw [if_pos c23] at H
       have c23b0 : (t168 == 0) = true := beq_iff_eq.mpr c23
       have c23b1 : (t168 != 0) = false := bne_eq_false_iff_eq.mpr c23
       clear c23
       by_cases c24 : t167.toList = ([49, 49, 49, 48, 49, 49, 48, 48] : List UInt8)
       ·
        rw [if_pos c24] at H
        have c24b0 : (t167.toList == ([49, 49, 49, 48, 49, 49, 48, 48] : List UInt8)) = true := beq_iff_eq.mpr c24
        have c24b1 : (t167.toList != ([49, 49, 49, 48, 49, 49, 48, 48] : List UInt8)) = false := bne_eq_false_iff_eq.mpr c24
        clear c24
        by_cases c25 : t171 = 0
        ·
         rw [if_pos c25] at H
         have c25b0 : (t171 == 0) = true := beq_iff_eq.mpr c25
         have c25b1 : (t171 != 0) = false := bne_eq_false_iff_eq.mpr c25
         clear c25
         by_cases c26 : t169.toList = ([49] : List UInt8)
         ·
          rw [if_pos c26] at H
          have c26b0 : (t169.toList == ([49] : List UInt8)) = true := beq_iff_eq.mpr c26
          have c26b1 : (t169.toList != ([49] : List UInt8)) = false := bne_eq_false_iff_eq.mpr c26
          clear c26
          by_cases c27 : t170 = 0
          ·
           rw [if_pos c27] at H
           have c27b0 : (t170 == 0) = true := beq_iff_eq.mpr c27
           have c27b1 : (t170 != 0) = false := bne_eq_false_iff_eq.mpr c27
           clear c27
           by_cases c28 : t173 = 0
           ·
            rw [if_pos c28] at H
            have c28b0 : (t173 == 0) = true := beq_iff_eq.mpr c28
            have c28b1 : (t173 != 0) = false := bne_eq_false_iff_eq.mpr c28
            clear c28
            have H' := Aside0.mk H
            clear H
            go_wp2_with (first | ((with_reducible refine gate_dst (N := 49) rfl ?_); (try (refine gate_guard (by rfl) ?_; dsimp only)); refine Kd.R_lit Kd.string _ 9 ?hg (N := 49) ?hd (xs := ([(⟨#[49, 48]⟩ : ByteArray), (⟨#[48]⟩ : ByteArray), (⟨#[49, 49]⟩ : ByteArray)] : List ByteArray)) (inner := [.string (⟨#[49, 48]⟩ : ByteArray), .string (⟨#[48]⟩ : ByteArray), .string (⟨#[49, 49]⟩ : ByteArray)]) (ok := fun _ => True) (okp := fun _ => True) ?hr ?hp (fun _ hk => hk) trivial (Below.refl _ _) (Nat.le_refl _) (by simp) ?_; (case hd => rfl); (case hg => rfl); (case hr => first | (go_simp; done) | (go_simp; rfl)); (case hp => exact (Reps.one (show Kd.M Kd.string _ _ _ (⟨#[49, 48]⟩ : ByteArray) [.string (⟨#[49, 48]⟩ : ByteArray)] from rfl) (Reps.one (show Kd.M Kd.string _ _ _ (⟨#[48]⟩ : ByteArray) [.string (⟨#[48]⟩ : ByteArray)] from rfl) (Reps.one (show Kd.M Kd.string _ _ _ (⟨#[49, 49]⟩ : ByteArray) [.string (⟨#[49, 49]⟩ : ByteArray)] from rfl) (Reps.none _ _))))); intro v175 w29 ho30 hb hg_ hnew_; clear hg_ hnew_; (first | rw [← Ny174.out] at ho30 | (simp only [Int.reduceToNat] at ho30; rw [← Ny174.out] at ho30)); have n0_ := Aside0.mk (Kd.R_below (by (with_reducible repeat (first | apply Kd.R_alloc | apply Kd.R_drewN | apply Kd.R_drew)); exact HO154.out) hb); have n1_ := Aside0.mk (Kd.R_below (by (with_reducible repeat (first | apply Kd.R_alloc | apply Kd.R_drewN | apply Kd.R_drew)); exact HO159.out) hb); have n2_ := Aside0.mk (Kd.R_below (by (with_reducible repeat (first | apply Kd.R_alloc | apply Kd.R_drewN | apply Kd.R_drew)); exact HO162.out) hb); have n3_ := Aside0.mk (Kd.R_elder' (by (with_reducible repeat (first | apply Kd.R_alloc | apply Kd.R_drewN | apply Kd.R_drew)); exact HO166.out) (Kd.R_base ho30) hb); have n4_ := Aside0.mk (Kd.R_lower (Kd.R_new' ho30 (Kd.R_lt (by (with_reducible repeat (first | apply Kd.R_alloc | apply Kd.R_drewN | apply Kd.R_drew)); exact HO166.out))) (below_size (by repeat (first | (with_reducible first | exact HB.out | apply below_alloc | apply pw_below_drewN | apply below_drew1) | exact HB.out)))); have n5_ := Aside0.mk (below_step (by repeat (first | (with_reducible first | exact HB.out | apply below_alloc | apply pw_below_drewN | apply below_drew1) | exact HB.out)) hb); clear HO154; clear HO159; clear HO162; clear HO166; clear HB; have HO154 := n0_; have HO159 := n1_; have HO162 := n2_; have HO166 := n3_; have HO176 := n4_; have HB := n5_; clear n0_ n1_ n2_ n3_ n4_ n5_; clear hb ho30; obtain ⟨Ao31, co31, eo31⟩ := Kd.R_slice HO166.out; subst eo31; obtain ⟨Ao32, co32, eo32⟩ := Kd.R_slice HO176.out; subst eo32) | (go_at_call 28; (with_reducible refine (turndownlaw06_texts.calls k _ _ t163 _ _ y174 true _ ?side1 ?side2 ?side3 ?side4 A21.out).mono ?_); (case side1 => repeat (first | exact (Kd.R_reads' HO166.out).2.2 | (with_reducible refine Kd.C_alloc ?_ _) | (with_reducible refine Kd.C_drewN ?_ _) | (with_reducible refine Kd.C_drew ?_))); (case side2 => exact (Kd.R_reads' HO166.out).2.1); (case side3 => repeat (first | exact (Kd.R_reads' HO176.out).2.2 | (with_reducible refine Kd.C_alloc ?_ _) | (with_reducible refine Kd.C_drewN ?_ _) | (with_reducible refine Kd.C_drew ?_))); (case side4 => exact (Kd.R_reads' HO176.out).2.1); rintro e w' ⟨rfl, ⟨nd, rfl⟩⟩))
            go_meet
            case rel => exact ⟨_, ((t172 != 5)), (by first | rfl | (simp; done) | (simp [*]; done)), H', ⟨by first | omega | exact Nat.le_refl _⟩, ⟨by repeat (first | (with_reducible first | exact HB.out | apply below_alloc | apply pw_below_drewN | apply below_drew1) | exact HB.out)⟩⟩
           ·
            rw [if_neg c28] at H
            have c28b0 : (t173 == 0) = false := beq_eq_false_iff_ne.mpr c28
            have c28b1 : (t173 != 0) = true := bne_iff_ne.mpr c28
            have H' := Aside0.mk H
            clear H
            go_wp2_with (first | ((with_reducible refine gate_dst (N := 49) rfl ?_); (try (refine gate_guard (by rfl) ?_; dsimp only)); refine Kd.R_lit Kd.string _ 9 ?hg (N := 49) ?hd (xs := ([(⟨#[49, 48]⟩ : ByteArray), (⟨#[48]⟩ : ByteArray), (⟨#[49, 49]⟩ : ByteArray)] : List ByteArray)) (inner := [.string (⟨#[49, 48]⟩ : ByteArray), .string (⟨#[48]⟩ : ByteArray), .string (⟨#[49, 49]⟩ : ByteArray)]) (ok := fun _ => True) (okp := fun _ => True) ?hr ?hp (fun _ hk => hk) trivial (Below.refl _ _) (Nat.le_refl _) (by simp) ?_; (case hd => rfl); (case hg => rfl); (case hr => first | (go_simp; done) | (go_simp; rfl)); (case hp => exact (Reps.one (show Kd.M Kd.string _ _ _ (⟨#[49, 48]⟩ : ByteArray) [.string (⟨#[49, 48]⟩ : ByteArray)] from rfl) (Reps.one (show Kd.M Kd.string _ _ _ (⟨#[48]⟩ : ByteArray) [.string (⟨#[48]⟩ : ByteArray)] from rfl) (Reps.one (show Kd.M Kd.string _ _ _ (⟨#[49, 49]⟩ : ByteArray) [.string (⟨#[49, 49]⟩ : ByteArray)] from rfl) (Reps.none _ _))))); intro v175 w33 ho34 hb hg_ hnew_; clear hg_ hnew_; (first | rw [← Ny174.out] at ho34 | (simp only [Int.reduceToNat] at ho34; rw [← Ny174.out] at ho34)); have n0_ := Aside0.mk (Kd.R_below (by (with_reducible repeat (first | apply Kd.R_alloc | apply Kd.R_drewN | apply Kd.R_drew)); exact HO154.out) hb); have n1_ := Aside0.mk (Kd.R_below (by (with_reducible repeat (first | apply Kd.R_alloc | apply Kd.R_drewN | apply Kd.R_drew)); exact HO159.out) hb); have n2_ := Aside0.mk (Kd.R_below (by (with_reducible repeat (first | apply Kd.R_alloc | apply Kd.R_drewN | apply Kd.R_drew)); exact HO162.out) hb); have n3_ := Aside0.mk (Kd.R_elder' (by (with_reducible repeat (first | apply Kd.R_alloc | apply Kd.R_drewN | apply Kd.R_drew)); exact HO166.out) (Kd.R_base ho34) hb); have n4_ := Aside0.mk (Kd.R_lower (Kd.R_new' ho34 (Kd.R_lt (by (with_reducible repeat (first | apply Kd.R_alloc | apply Kd.R_drewN | apply Kd.R_drew)); exact HO166.out))) (below_size (by repeat (first | (with_reducible first | exact HB.out | apply below_alloc | apply pw_below_drewN | apply below_drew1) | exact HB.out)))); have n5_ := Aside0.mk (below_step (by repeat (first | (with_reducible first | exact HB.out | apply below_alloc | apply pw_below_drewN | apply below_drew1) | exact HB.out)) hb); clear HO154; clear HO159; clear HO162; clear HO166; clear HB; have HO154 := n0_; have HO159 := n1_; have HO162 := n2_; have HO166 := n3_; have HO176 := n4_; have HB := n5_; clear n0_ n1_ n2_ n3_ n4_ n5_; clear hb ho34; obtain ⟨Ao35, co35, eo35⟩ := Kd.R_slice HO166.out; subst eo35; obtain ⟨Ao36, co36, eo36⟩ := Kd.R_slice HO176.out; subst eo36) | (go_at_call 28; (with_reducible refine (turndownlaw06_texts.calls k _ _ t163 _ _ y174 true _ ?side1 ?side2 ?side3 ?side4 A21.out).mono ?_); (case side1 => repeat (first | exact (Kd.R_reads' HO166.out).2.2 | (with_reducible refine Kd.C_alloc ?_ _) | (with_reducible refine Kd.C_drewN ?_ _) | (with_reducible refine Kd.C_drew ?_))); (case side2 => exact (Kd.R_reads' HO166.out).2.1); (case side3 => repeat (first | exact (Kd.R_reads' HO176.out).2.2 | (with_reducible refine Kd.C_alloc ?_ _) | (with_reducible refine Kd.C_drewN ?_ _) | (with_reducible refine Kd.C_drew ?_))); (case side4 => exact (Kd.R_reads' HO176.out).2.1); rintro e w' ⟨rfl, ⟨nd, rfl⟩⟩))
            go_meet
            case rel => exact ⟨_, (true), (by first | rfl | (simp; done) | (simp [*]; done)), H', ⟨by first | omega | exact Nat.le_refl _⟩, ⟨by repeat (first | (with_reducible first | exact HB.out | apply below_alloc | apply pw_below_drewN | apply below_drew1) | exact HB.out)⟩⟩
          ·
           rw [if_neg c27] at H
           have c27b0 : (t170 == 0) = false := beq_eq_false_iff_ne.mpr c27
           have c27b1 : (t170 != 0) = true := bne_iff_ne.mpr c27
           have H' := Aside0.mk H
           clear H
           go_wp2_with (first | ((with_reducible refine gate_dst (N := 49) rfl ?_); (try (refine gate_guard (by rfl) ?_; dsimp only)); refine Kd.R_lit Kd.string _ 9 ?hg (N := 49) ?hd (xs := ([(⟨#[49, 48]⟩ : ByteArray), (⟨#[48]⟩ : ByteArray), (⟨#[49, 49]⟩ : ByteArray)] : List ByteArray)) (inner := [.string (⟨#[49, 48]⟩ : ByteArray), .string (⟨#[48]⟩ : ByteArray), .string (⟨#[49, 49]⟩ : ByteArray)]) (ok := fun _ => True) (okp := fun _ => True) ?hr ?hp (fun _ hk => hk) trivial (Below.refl _ _) (Nat.le_refl _) (by simp) ?_; (case hd => rfl); (case hg => rfl); (case hr => first | (go_simp; done) | (go_simp; rfl)); (case hp => exact (Reps.one (show Kd.M Kd.string _ _ _ (⟨#[49, 48]⟩ : ByteArray) [.string (⟨#[49, 48]⟩ : ByteArray)] from rfl) (Reps.one (show Kd.M Kd.string _ _ _ (⟨#[48]⟩ : ByteArray) [.string (⟨#[48]⟩ : ByteArray)] from rfl) (Reps.one (show Kd.M Kd.string _ _ _ (⟨#[49, 49]⟩ : ByteArray) [.string (⟨#[49, 49]⟩ : ByteArray)] from rfl) (Reps.none _ _))))); intro v175 w37 ho38 hb hg_ hnew_; clear hg_ hnew_; (first | rw [← Ny174.out] at ho38 | (simp only [Int.reduceToNat] at ho38; rw [← Ny174.out] at ho38)); have n0_ := Aside0.mk (Kd.R_below (by (with_reducible repeat (first | apply Kd.R_alloc | apply Kd.R_drewN | apply Kd.R_drew)); exact HO154.out) hb); have n1_ := Aside0.mk (Kd.R_below (by (with_reducible repeat (first | apply Kd.R_alloc | apply Kd.R_drewN | apply Kd.R_drew)); exact HO159.out) hb); have n2_ := Aside0.mk (Kd.R_below (by (with_reducible repeat (first | apply Kd.R_alloc | apply Kd.R_drewN | apply Kd.R_drew)); exact HO162.out) hb); have n3_ := Aside0.mk (Kd.R_elder' (by (with_reducible repeat (first | apply Kd.R_alloc | apply Kd.R_drewN | apply Kd.R_drew)); exact HO166.out) (Kd.R_base ho38) hb); have n4_ := Aside0.mk (Kd.R_lower (Kd.R_new' ho38 (Kd.R_lt (by (with_reducible repeat (first | apply Kd.R_alloc | apply Kd.R_drewN | apply Kd.R_drew)); exact HO166.out))) (below_size (by repeat (first | (with_reducible first | exact HB.out | apply below_alloc | apply pw_below_drewN | apply below_drew1) | exact HB.out)))); have n5_ := Aside0.mk (below_step (by repeat (first | (with_reducible first | exact HB.out | apply below_alloc | apply pw_below_drewN | apply below_drew1) | exact HB.out)) hb); clear HO154; clear HO159; clear HO162; clear HO166; clear HB; have HO154 := n0_; have HO159 := n1_; have HO162 := n2_; have HO166 := n3_; have HO176 := n4_; have HB := n5_; clear n0_ n1_ n2_ n3_ n4_ n5_; clear hb ho38; obtain ⟨Ao39, co39, eo39⟩ := Kd.R_slice HO166.out; subst eo39; obtain ⟨Ao40, co40, eo40⟩ := Kd.R_slice HO176.out; subst eo40) | (go_at_call 28; (with_reducible refine (turndownlaw06_texts.calls k _ _ t163 _ _ y174 true _ ?side1 ?side2 ?side3 ?side4 A21.out).mono ?_); (case side1 => repeat (first | exact (Kd.R_reads' HO166.out).2.2 | (with_reducible refine Kd.C_alloc ?_ _) | (with_reducible refine Kd.C_drewN ?_ _) | (with_reducible refine Kd.C_drew ?_))); (case side2 => exact (Kd.R_reads' HO166.out).2.1); (case side3 => repeat (first | exact (Kd.R_reads' HO176.out).2.2 | (with_reducible refine Kd.C_alloc ?_ _) | (with_reducible refine Kd.C_drewN ?_ _) | (with_reducible refine Kd.C_drew ?_))); (case side4 => exact (Kd.R_reads' HO176.out).2.1); rintro e w' ⟨rfl, ⟨nd, rfl⟩⟩))
           go_meet
           case rel => exact ⟨_, (true), (by first | rfl | (simp; done) | (simp [*]; done)), H', ⟨by first | omega | exact Nat.le_refl _⟩, ⟨by repeat (first | (with_reducible first | exact HB.out | apply below_alloc | apply pw_below_drewN | apply below_drew1) | exact HB.out)⟩⟩
         ·
          rw [if_neg c26] at H
          have c26b0 : (t169.toList == ([49] : List UInt8)) = false := beq_eq_false_iff_ne.mpr c26
          have c26b1 : (t169.toList != ([49] : List UInt8)) = true := bne_iff_ne.mpr c26
          have H' := Aside0.mk H
          clear H
          go_wp2_with (first | ((with_reducible refine gate_dst (N := 49) rfl ?_); (try (refine gate_guard (by rfl) ?_; dsimp only)); refine Kd.R_lit Kd.string _ 9 ?hg (N := 49) ?hd (xs := ([(⟨#[49, 48]⟩ : ByteArray), (⟨#[48]⟩ : ByteArray), (⟨#[49, 49]⟩ : ByteArray)] : List ByteArray)) (inner := [.string (⟨#[49, 48]⟩ : ByteArray), .string (⟨#[48]⟩ : ByteArray), .string (⟨#[49, 49]⟩ : ByteArray)]) (ok := fun _ => True) (okp := fun _ => True) ?hr ?hp (fun _ hk => hk) trivial (Below.refl _ _) (Nat.le_refl _) (by simp) ?_; (case hd => rfl); (case hg => rfl); (case hr => first | (go_simp; done) | (go_simp; rfl)); (case hp => exact (Reps.one (show Kd.M Kd.string _ _ _ (⟨#[49, 48]⟩ : ByteArray) [.string (⟨#[49, 48]⟩ : ByteArray)] from rfl) (Reps.one (show Kd.M Kd.string _ _ _ (⟨#[48]⟩ : ByteArray) [.string (⟨#[48]⟩ : ByteArray)] from rfl) (Reps.one (show Kd.M Kd.string _ _ _ (⟨#[49, 49]⟩ : ByteArray) [.string (⟨#[49, 49]⟩ : ByteArray)] from rfl) (Reps.none _ _))))); intro v175 w41 ho42 hb hg_ hnew_; clear hg_ hnew_; (first | rw [← Ny174.out] at ho42 | (simp only [Int.reduceToNat] at ho42; rw [← Ny174.out] at ho42)); have n0_ := Aside0.mk (Kd.R_below (by (with_reducible repeat (first | apply Kd.R_alloc | apply Kd.R_drewN | apply Kd.R_drew)); exact HO154.out) hb); have n1_ := Aside0.mk (Kd.R_below (by (with_reducible repeat (first | apply Kd.R_alloc | apply Kd.R_drewN | apply Kd.R_drew)); exact HO159.out) hb); have n2_ := Aside0.mk (Kd.R_below (by (with_reducible repeat (first | apply Kd.R_alloc | apply Kd.R_drewN | apply Kd.R_drew)); exact HO162.out) hb); have n3_ := Aside0.mk (Kd.R_elder' (by (with_reducible repeat (first | apply Kd.R_alloc | apply Kd.R_drewN | apply Kd.R_drew)); exact HO166.out) (Kd.R_base ho42) hb); have n4_ := Aside0.mk (Kd.R_lower (Kd.R_new' ho42 (Kd.R_lt (by (with_reducible repeat (first | apply Kd.R_alloc | apply Kd.R_drewN | apply Kd.R_drew)); exact HO166.out))) (below_size (by repeat (first | (with_reducible first | exact HB.out | apply below_alloc | apply pw_below_drewN | apply below_drew1) | exact HB.out)))); have n5_ := Aside0.mk (below_step (by repeat (first | (with_reducible first | exact HB.out | apply below_alloc | apply pw_below_drewN | apply below_drew1) | exact HB.out)) hb); clear HO154; clear HO159; clear HO162; clear HO166; clear HB; have HO154 := n0_; have HO159 := n1_; have HO162 := n2_; have HO166 := n3_; have HO176 := n4_; have HB := n5_; clear n0_ n1_ n2_ n3_ n4_ n5_; clear hb ho42; obtain ⟨Ao43, co43, eo43⟩ := Kd.R_slice HO166.out; subst eo43; obtain ⟨Ao44, co44, eo44⟩ := Kd.R_slice HO176.out; subst eo44) | (go_at_call 28; (with_reducible refine (turndownlaw06_texts.calls k _ _ t163 _ _ y174 true _ ?side1 ?side2 ?side3 ?side4 A21.out).mono ?_); (case side1 => repeat (first | exact (Kd.R_reads' HO166.out).2.2 | (with_reducible refine Kd.C_alloc ?_ _) | (with_reducible refine Kd.C_drewN ?_ _) | (with_reducible refine Kd.C_drew ?_))); (case side2 => exact (Kd.R_reads' HO166.out).2.1); (case side3 => repeat (first | exact (Kd.R_reads' HO176.out).2.2 | (with_reducible refine Kd.C_alloc ?_ _) | (with_reducible refine Kd.C_drewN ?_ _) | (with_reducible refine Kd.C_drew ?_))); (case side4 => exact (Kd.R_reads' HO176.out).2.1); rintro e w' ⟨rfl, ⟨nd, rfl⟩⟩))
          go_meet
          case rel => exact ⟨_, (true), (by first | rfl | (simp; done) | (simp [*]; done)), H', ⟨by first | omega | exact Nat.le_refl _⟩, ⟨by repeat (first | (with_reducible first | exact HB.out | apply below_alloc | apply pw_below_drewN | apply below_drew1) | exact HB.out)⟩⟩
        ·
         rw [if_neg c25] at H
         have c25b0 : (t171 == 0) = false := beq_eq_false_iff_ne.mpr c25
         have c25b1 : (t171 != 0) = true := bne_iff_ne.mpr c25
         have H' := Aside0.mk H
         clear H
         go_wp2_with (first | ((with_reducible refine gate_dst (N := 49) rfl ?_); (try (refine gate_guard (by rfl) ?_; dsimp only)); refine Kd.R_lit Kd.string _ 9 ?hg (N := 49) ?hd (xs := ([(⟨#[49, 48]⟩ : ByteArray), (⟨#[48]⟩ : ByteArray), (⟨#[49, 49]⟩ : ByteArray)] : List ByteArray)) (inner := [.string (⟨#[49, 48]⟩ : ByteArray), .string (⟨#[48]⟩ : ByteArray), .string (⟨#[49, 49]⟩ : ByteArray)]) (ok := fun _ => True) (okp := fun _ => True) ?hr ?hp (fun _ hk => hk) trivial (Below.refl _ _) (Nat.le_refl _) (by simp) ?_; (case hd => rfl); (case hg => rfl); (case hr => first | (go_simp; done) | (go_simp; rfl)); (case hp => exact (Reps.one (show Kd.M Kd.string _ _ _ (⟨#[49, 48]⟩ : ByteArray) [.string (⟨#[49, 48]⟩ : ByteArray)] from rfl) (Reps.one (show Kd.M Kd.string _ _ _ (⟨#[48]⟩ : ByteArray) [.string (⟨#[48]⟩ : ByteArray)] from rfl) (Reps.one (show Kd.M Kd.string _ _ _ (⟨#[49, 49]⟩ : ByteArray) [.string (⟨#[49, 49]⟩ : ByteArray)] from rfl) (Reps.none _ _))))); intro v175 w45 ho46 hb hg_ hnew_; clear hg_ hnew_; (first | rw [← Ny174.out] at ho46 | (simp only [Int.reduceToNat] at ho46; rw [← Ny174.out] at ho46)); have n0_ := Aside0.mk (Kd.R_below (by (with_reducible repeat (first | apply Kd.R_alloc | apply Kd.R_drewN | apply Kd.R_drew)); exact HO154.out) hb); have n1_ := Aside0.mk (Kd.R_below (by (with_reducible repeat (first | apply Kd.R_alloc | apply Kd.R_drewN | apply Kd.R_drew)); exact HO159.out) hb); have n2_ := Aside0.mk (Kd.R_below (by (with_reducible repeat (first | apply Kd.R_alloc | apply Kd.R_drewN | apply Kd.R_drew)); exact HO162.out) hb); have n3_ := Aside0.mk (Kd.R_elder' (by (with_reducible repeat (first | apply Kd.R_alloc | apply Kd.R_drewN | apply Kd.R_drew)); exact HO166.out) (Kd.R_base ho46) hb); have n4_ := Aside0.mk (Kd.R_lower (Kd.R_new' ho46 (Kd.R_lt (by (with_reducible repeat (first | apply Kd.R_alloc | apply Kd.R_drewN | apply Kd.R_drew)); exact HO166.out))) (below_size (by repeat (first | (with_reducible first | exact HB.out | apply below_alloc | apply pw_below_drewN | apply below_drew1) | exact HB.out)))); have n5_ := Aside0.mk (below_step (by repeat (first | (with_reducible first | exact HB.out | apply below_alloc | apply pw_below_drewN | apply below_drew1) | exact HB.out)) hb); clear HO154; clear HO159; clear HO162; clear HO166; clear HB; have HO154 := n0_; have HO159 := n1_; have HO162 := n2_; have HO166 := n3_; have HO176 := n4_; have HB := n5_; clear n0_ n1_ n2_ n3_ n4_ n5_; clear hb ho46; obtain ⟨Ao47, co47, eo47⟩ := Kd.R_slice HO166.out; subst eo47; obtain ⟨Ao48, co48, eo48⟩ := Kd.R_slice HO176.out; subst eo48) | (go_at_call 28; (with_reducible refine (turndownlaw06_texts.calls k _ _ t163 _ _ y174 true _ ?side1 ?side2 ?side3 ?side4 A21.out).mono ?_); (case side1 => repeat (first | exact (Kd.R_reads' HO166.out).2.2 | (with_reducible refine Kd.C_alloc ?_ _) | (with_reducible refine Kd.C_drewN ?_ _) | (with_reducible refine Kd.C_drew ?_))); (case side2 => exact (Kd.R_reads' HO166.out).2.1); (case side3 => repeat (first | exact (Kd.R_reads' HO176.out).2.2 | (with_reducible refine Kd.C_alloc ?_ _) | (with_reducible refine Kd.C_drewN ?_ _) | (with_reducible refine Kd.C_drew ?_))); (case side4 => exact (Kd.R_reads' HO176.out).2.1); rintro e w' ⟨rfl, ⟨nd, rfl⟩⟩))
         go_meet
         case rel => exact ⟨_, (true), (by first | rfl | (simp; done) | (simp [*]; done)), H', ⟨by first | omega | exact Nat.le_refl _⟩, ⟨by repeat (first | (with_reducible first | exact HB.out | apply below_alloc | apply pw_below_drewN | apply below_drew1) | exact HB.out)⟩⟩
       ·
        rw [if_neg c24] at H
        have c24b0 : (t167.toList == ([49, 49, 49, 48, 49, 49, 48, 48] : List UInt8)) = false := beq_eq_false_iff_ne.mpr c24
        have c24b1 : (t167.toList != ([49, 49, 49, 48, 49, 49, 48, 48] : List UInt8)) = true := bne_iff_ne.mpr c24
        have H' := Aside0.mk H
        clear H
        go_wp2_with (first | ((with_reducible refine gate_dst (N := 49) rfl ?_); (try (refine gate_guard (by rfl) ?_; dsimp only)); refine Kd.R_lit Kd.string _ 9 ?hg (N := 49) ?hd (xs := ([(⟨#[49, 48]⟩ : ByteArray), (⟨#[48]⟩ : ByteArray), (⟨#[49, 49]⟩ : ByteArray)] : List ByteArray)) (inner := [.string (⟨#[49, 48]⟩ : ByteArray), .string (⟨#[48]⟩ : ByteArray), .string (⟨#[49, 49]⟩ : ByteArray)]) (ok := fun _ => True) (okp := fun _ => True) ?hr ?hp (fun _ hk => hk) trivial (Below.refl _ _) (Nat.le_refl _) (by simp) ?_; (case hd => rfl); (case hg => rfl); (case hr => first | (go_simp; done) | (go_simp; rfl)); (case hp => exact (Reps.one (show Kd.M Kd.string _ _ _ (⟨#[49, 48]⟩ : ByteArray) [.string (⟨#[49, 48]⟩ : ByteArray)] from rfl) (Reps.one (show Kd.M Kd.string _ _ _ (⟨#[48]⟩ : ByteArray) [.string (⟨#[48]⟩ : ByteArray)] from rfl) (Reps.one (show Kd.M Kd.string _ _ _ (⟨#[49, 49]⟩ : ByteArray) [.string (⟨#[49, 49]⟩ : ByteArray)] from rfl) (Reps.none _ _))))); intro v175 w49 ho50 hb hg_ hnew_; clear hg_ hnew_; (first | rw [← Ny174.out] at ho50 | (simp only [Int.reduceToNat] at ho50; rw [← Ny174.out] at ho50)); have n0_ := Aside0.mk (Kd.R_below (by (with_reducible repeat (first | apply Kd.R_alloc | apply Kd.R_drewN | apply Kd.R_drew)); exact HO154.out) hb); have n1_ := Aside0.mk (Kd.R_below (by (with_reducible repeat (first | apply Kd.R_alloc | apply Kd.R_drewN | apply Kd.R_drew)); exact HO159.out) hb); have n2_ := Aside0.mk (Kd.R_below (by (with_reducible repeat (first | apply Kd.R_alloc | apply Kd.R_drewN | apply Kd.R_drew)); exact HO162.out) hb); have n3_ := Aside0.mk (Kd.R_elder' (by (with_reducible repeat (first | apply Kd.R_alloc | apply Kd.R_drewN | apply Kd.R_drew)); exact HO166.out) (Kd.R_base ho50) hb); have n4_ := Aside0.mk (Kd.R_lower (Kd.R_new' ho50 (Kd.R_lt (by (with_reducible repeat (first | apply Kd.R_alloc | apply Kd.R_drewN | apply Kd.R_drew)); exact HO166.out))) (below_size (by repeat (first | (with_reducible first | exact HB.out | apply below_alloc | apply pw_below_drewN | apply below_drew1) | exact HB.out)))); have n5_ := Aside0.mk (below_step (by repeat (first | (with_reducible first | exact HB.out | apply below_alloc | apply pw_below_drewN | apply below_drew1) | exact HB.out)) hb); clear HO154; clear HO159; clear HO162; clear HO166; clear HB; have HO154 := n0_; have HO159 := n1_; have HO162 := n2_; have HO166 := n3_; have HO176 := n4_; have HB := n5_; clear n0_ n1_ n2_ n3_ n4_ n5_; clear hb ho50; obtain ⟨Ao51, co51, eo51⟩ := Kd.R_slice HO166.out; subst eo51; obtain ⟨Ao52, co52, eo52⟩ := Kd.R_slice HO176.out; subst eo52) | (go_at_call 28; (with_reducible refine (turndownlaw06_texts.calls k _ _ t163 _ _ y174 true _ ?side1 ?side2 ?side3 ?side4 A21.out).mono ?_); (case side1 => repeat (first | exact (Kd.R_reads' HO166.out).2.2 | (with_reducible refine Kd.C_alloc ?_ _) | (with_reducible refine Kd.C_drewN ?_ _) | (with_reducible refine Kd.C_drew ?_))); (case side2 => exact (Kd.R_reads' HO166.out).2.1); (case side3 => repeat (first | exact (Kd.R_reads' HO176.out).2.2 | (with_reducible refine Kd.C_alloc ?_ _) | (with_reducible refine Kd.C_drewN ?_ _) | (with_reducible refine Kd.C_drew ?_))); (case side4 => exact (Kd.R_reads' HO176.out).2.1); rintro e w' ⟨rfl, ⟨nd, rfl⟩⟩))
        go_meet
        case rel => exact ⟨_, (true), (by first | rfl | (simp; done) | (simp [*]; done)), H', ⟨by first | omega | exact Nat.le_refl _⟩, ⟨by repeat (first | (with_reducible first | exact HB.out | apply below_alloc | apply pw_below_drewN | apply below_drew1) | exact HB.out)⟩⟩
      ·
       rw [if_neg c23] at H
       have c23b0 : (t168 == 0) = false := beq_eq_false_iff_ne.mpr c23
       have c23b1 : (t168 != 0) = true := bne_iff_ne.mpr c23
       have H' := Aside0.mk H
       clear H
       go_wp2_with (first | ((with_reducible refine gate_dst (N := 49) rfl ?_); (try (refine gate_guard (by rfl) ?_; dsimp only)); refine Kd.R_lit Kd.string _ 9 ?hg (N := 49) ?hd (xs := ([(⟨#[49, 48]⟩ : ByteArray), (⟨#[48]⟩ : ByteArray), (⟨#[49, 49]⟩ : ByteArray)] : List ByteArray)) (inner := [.string (⟨#[49, 48]⟩ : ByteArray), .string (⟨#[48]⟩ : ByteArray), .string (⟨#[49, 49]⟩ : ByteArray)]) (ok := fun _ => True) (okp := fun _ => True) ?hr ?hp (fun _ hk => hk) trivial (Below.refl _ _) (Nat.le_refl _) (by simp) ?_; (case hd => rfl); (case hg => rfl); (case hr => first | (go_simp; done) | (go_simp; rfl)); (case hp => exact (Reps.one (show Kd.M Kd.string _ _ _ (⟨#[49, 48]⟩ : ByteArray) [.string (⟨#[49, 48]⟩ : ByteArray)] from rfl) (Reps.one (show Kd.M Kd.string _ _ _ (⟨#[48]⟩ : ByteArray) [.string (⟨#[48]⟩ : ByteArray)] from rfl) (Reps.one (show Kd.M Kd.string _ _ _ (⟨#[49, 49]⟩ : ByteArray) [.string (⟨#[49, 49]⟩ : ByteArray)] from rfl) (Reps.none _ _))))); intro v175 w53 ho54 hb hg_ hnew_; clear hg_ hnew_; (first | rw [← Ny174.out] at ho54 | (simp only [Int.reduceToNat] at ho54; rw [← Ny174.out] at ho54)); have n0_ := Aside0.mk (Kd.R_below (by (with_reducible repeat (first | apply Kd.R_alloc | apply Kd.R_drewN | apply Kd.R_drew)); exact HO154.out) hb); have n1_ := Aside0.mk (Kd.R_below (by (with_reducible repeat (first | apply Kd.R_alloc | apply Kd.R_drewN | apply Kd.R_drew)); exact HO159.out) hb); have n2_ := Aside0.mk (Kd.R_below (by (with_reducible repeat (first | apply Kd.R_alloc | apply Kd.R_drewN | apply Kd.R_drew)); exact HO162.out) hb); have n3_ := Aside0.mk (Kd.R_elder' (by (with_reducible repeat (first | apply Kd.R_alloc | apply Kd.R_drewN | apply Kd.R_drew)); exact HO166.out) (Kd.R_base ho54) hb); have n4_ := Aside0.mk (Kd.R_lower (Kd.R_new' ho54 (Kd.R_lt (by (with_reducible repeat (first | apply Kd.R_alloc | apply Kd.R_drewN | apply Kd.R_drew)); exact HO166.out))) (below_size (by repeat (first | (with_reducible first | exact HB.out | apply below_alloc | apply pw_below_drewN | apply below_drew1) | exact HB.out)))); have n5_ := Aside0.mk (below_step (by repeat (first | (with_reducible first | exact HB.out | apply below_alloc | apply pw_below_drewN | apply below_drew1) | exact HB.out)) hb); clear HO154; clear HO159; clear HO162; clear HO166; clear HB; have HO154 := n0_; have HO159 := n1_; have HO162 := n2_; have HO166 := n3_; have HO176 := n4_; have HB := n5_; clear n0_ n1_ n2_ n3_ n4_ n5_; clear hb ho54; obtain ⟨Ao55, co55, eo55⟩ := Kd.R_slice HO166.out; subst eo55; obtain ⟨Ao56, co56, eo56⟩ := Kd.R_slice HO176.out; subst eo56) | (go_at_call 28; (with_reducible refine (turndownlaw06_texts.calls k _ _ t163 _ _ y174 true _ ?side1 ?side2 ?side3 ?side4 A21.out).mono ?_); (case side1 => repeat (first | exact (Kd.R_reads' HO166.out).2.2 | (with_reducible refine Kd.C_alloc ?_ _) | (with_reducible refine Kd.C_drewN ?_ _) | (with_reducible refine Kd.C_drew ?_))); (case side2 => exact (Kd.R_reads' HO166.out).2.1); (case side3 => repeat (first | exact (Kd.R_reads' HO176.out).2.2 | (with_reducible refine Kd.C_alloc ?_ _) | (with_reducible refine Kd.C_drewN ?_ _) | (with_reducible refine Kd.C_drew ?_))); (case side4 => exact (Kd.R_reads' HO176.out).2.1); rintro e w' ⟨rfl, ⟨nd, rfl⟩⟩))
       go_meet
       case rel => exact ⟨_, (true), (by first | rfl | (simp; done) | (simp [*]; done)), H', ⟨by first | omega | exact Nat.le_refl _⟩, ⟨by repeat (first | (with_reducible first | exact HB.out | apply below_alloc | apply pw_below_drewN | apply below_drew1) | exact HB.out)⟩⟩
     ·
      replace c22 := Bool.eq_false_iff.mpr c22
      subst c22
      have H1 : (turndownlaw06_awake.j0 k true) = some r := by rw [if_neg (show ¬ (false = true) by decide)] at H; exact H
      clear H
      have H := H1
      clear H1
      have H' := Aside0.mk H
      clear H
      go_wp2_with (first | ((with_reducible refine gate_dst (N := 49) rfl ?_); (try (refine gate_guard (by rfl) ?_; dsimp only)); refine Kd.R_lit Kd.string _ 9 ?hg (N := 49) ?hd (xs := ([(⟨#[49, 48]⟩ : ByteArray), (⟨#[48]⟩ : ByteArray), (⟨#[49, 49]⟩ : ByteArray)] : List ByteArray)) (inner := [.string (⟨#[49, 48]⟩ : ByteArray), .string (⟨#[48]⟩ : ByteArray), .string (⟨#[49, 49]⟩ : ByteArray)]) (ok := fun _ => True) (okp := fun _ => True) ?hr ?hp (fun _ hk => hk) trivial (Below.refl _ _) (Nat.le_refl _) (by simp) ?_; (case hd => rfl); (case hg => rfl); (case hr => first | (go_simp; done) | (go_simp; rfl)); (case hp => exact (Reps.one (show Kd.M Kd.string _ _ _ (⟨#[49, 48]⟩ : ByteArray) [.string (⟨#[49, 48]⟩ : ByteArray)] from rfl) (Reps.one (show Kd.M Kd.string _ _ _ (⟨#[48]⟩ : ByteArray) [.string (⟨#[48]⟩ : ByteArray)] from rfl) (Reps.one (show Kd.M Kd.string _ _ _ (⟨#[49, 49]⟩ : ByteArray) [.string (⟨#[49, 49]⟩ : ByteArray)] from rfl) (Reps.none _ _))))); intro v175 w57 ho58 hb hg_ hnew_; clear hg_ hnew_; (first | rw [← Ny174.out] at ho58 | (simp only [Int.reduceToNat] at ho58; rw [← Ny174.out] at ho58)); have n0_ := Aside0.mk (Kd.R_below (by (with_reducible repeat (first | apply Kd.R_alloc | apply Kd.R_drewN | apply Kd.R_drew)); exact HO154.out) hb); have n1_ := Aside0.mk (Kd.R_below (by (with_reducible repeat (first | apply Kd.R_alloc | apply Kd.R_drewN | apply Kd.R_drew)); exact HO159.out) hb); have n2_ := Aside0.mk (Kd.R_below (by (with_reducible repeat (first | apply Kd.R_alloc | apply Kd.R_drewN | apply Kd.R_drew)); exact HO162.out) hb); have n3_ := Aside0.mk (Kd.R_elder' (by (with_reducible repeat (first | apply Kd.R_alloc | apply Kd.R_drewN | apply Kd.R_drew)); exact HO166.out) (Kd.R_base ho58) hb); have n4_ := Aside0.mk (Kd.R_lower (Kd.R_new' ho58 (Kd.R_lt (by (with_reducible repeat (first | apply Kd.R_alloc | apply Kd.R_drewN | apply Kd.R_drew)); exact HO166.out))) (below_size (by repeat (first | (with_reducible first | exact HB.out | apply below_alloc | apply pw_below_drewN | apply below_drew1) | exact HB.out)))); have n5_ := Aside0.mk (below_step (by repeat (first | (with_reducible first | exact HB.out | apply below_alloc | apply pw_below_drewN | apply below_drew1) | exact HB.out)) hb); clear HO154; clear HO159; clear HO162; clear HO166; clear HB; have HO154 := n0_; have HO159 := n1_; have HO162 := n2_; have HO166 := n3_; have HO176 := n4_; have HB := n5_; clear n0_ n1_ n2_ n3_ n4_ n5_; clear hb ho58; obtain ⟨Ao59, co59, eo59⟩ := Kd.R_slice HO166.out; subst eo59; obtain ⟨Ao60, co60, eo60⟩ := Kd.R_slice HO176.out; subst eo60) | (go_at_call 28; (with_reducible refine (turndownlaw06_texts.calls k _ _ t163 _ _ y174 false _ ?side1 ?side2 ?side3 ?side4 A21.out).mono ?_); (case side1 => repeat (first | exact (Kd.R_reads' HO166.out).2.2 | (with_reducible refine Kd.C_alloc ?_ _) | (with_reducible refine Kd.C_drewN ?_ _) | (with_reducible refine Kd.C_drew ?_))); (case side2 => exact (Kd.R_reads' HO166.out).2.1); (case side3 => repeat (first | exact (Kd.R_reads' HO176.out).2.2 | (with_reducible refine Kd.C_alloc ?_ _) | (with_reducible refine Kd.C_drewN ?_ _) | (with_reducible refine Kd.C_drew ?_))); (case side4 => exact (Kd.R_reads' HO176.out).2.1); rintro e w' ⟨rfl, ⟨nd, rfl⟩⟩))
      go_meet
      case rel => exact ⟨_, (true), (by first | rfl | (simp; done) | (simp [*]; done)), H', ⟨by first | omega | exact Nat.le_refl _⟩, ⟨by repeat (first | (with_reducible first | exact HB.out | apply below_alloc | apply pw_below_drewN | apply below_drew1) | exact HB.out)⟩⟩
    ·
     rw [if_neg c20] at H
     have c20b0 : (t164 == 0) = false := beq_eq_false_iff_ne.mpr c20
     have c20b1 : (t164 != 0) = true := bne_iff_ne.mpr c20
     have H' := Aside0.mk H
     clear H
     go_wp2
     go_meet
     case rel => exact ⟨_, (true), (by first | rfl | (simp; done) | (simp [*]; done)), H', ⟨by first | omega | exact Nat.le_refl _⟩, ⟨by repeat (first | (with_reducible first | exact HB.out | apply below_alloc | apply pw_below_drewN | apply below_drew1) | exact HB.out)⟩⟩
   ·
    rw [if_neg c19] at H
    have c19b0 : (t156 == 14) = false := beq_eq_false_iff_ne.mpr c19
    have c19b1 : (t156 != 14) = true := bne_iff_ne.mpr c19
    have H' := Aside0.mk H
    clear H
    go_wp2
    go_meet
    case rel => exact ⟨_, (true), (by first | rfl | (simp; done) | (simp [*]; done)), H', ⟨by first | omega | exact Nat.le_refl _⟩, ⟨by repeat (first | (with_reducible first | exact HB.out | apply below_alloc | apply pw_below_drewN | apply below_drew1) | exact HB.out)⟩⟩
  ·
   rw [if_neg c18] at H
   have c18b0 : (t157 == 0) = false := beq_eq_false_iff_ne.mpr c18
   have c18b1 : (t157 != 0) = true := bne_iff_ne.mpr c18
   (first | rw [c18b0] | (simp only [i64_w, i32_w]; rw [c18b0]) | skip)
   have H' := Aside0.mk H
   clear H
   go_wp2
   go_meet
   case rel => exact ⟨_, (true), (by first | rfl | (simp; done) | (simp [*]; done)), H', ⟨by first | omega | exact Nat.le_refl _⟩, ⟨by repeat (first | (with_reducible first | exact HB.out | apply below_alloc | apply pw_below_drewN | apply below_drew1) | exact HB.out)⟩⟩
 case rest =>
  clear HC6
  try clear c1
  try clear c2
  try clear p2
  try clear c3
  try clear c18
  try clear c18b0
  try clear c18b1
  try clear c19
  try clear c19b0
  try clear c19b1
  try clear c20
  try clear c20b0
  try clear c20b1
  try clear c22
  try clear c23
  try clear c23b0
  try clear c23b1
  try clear c24
  try clear c24b0
  try clear c24b1
  try clear c25
  try clear c25b0
  try clear c25b1
  try clear c26
  try clear c26b0
  try clear c26b1
  try clear c27
  try clear c27b0
  try clear c27b1
  try clear c28
  try clear c28b0
  try clear c28b1
  try clear c30
  try clear c34
  try clear c36
  obtain ⟨kq, x80_5, rfl, HA, HJ5, HB⟩ := hcut
  cases kq with
  | zero => exact absurd HA.out (by simp [turndownlaw06_awake.j0])
  | succ kj5 =>
   have H := HA.out
   clear HA
   simp only [turndownlaw06_awake.j0] at H
   by_cases c61 : x80_5 = true
   ·
    subst c61
    have H1 : (some false) = some r := by rw [if_pos rfl] at H; exact H
    clear H
    have H := H1
    clear H1
    obtain rfl := Option.some.inj H
    go_wp2
    go_ret
    exact ⟨by first | rfl | (simp [errW_none, errW_some] <;> rfl) | (simp [*, errW_none, errW_some] <;> rfl), by repeat (first | (with_reducible first | exact HB.out | apply below_alloc | apply pw_below_drewN | apply below_drew1) | exact HB.out)⟩
   ·
    replace c61 := Bool.eq_false_iff.mpr c61
    subst c61
    have H1 : (some true) = some r := by rw [if_neg (show ¬ (false = true) by decide)] at H; exact H
    clear H
    have H := H1
    clear H1
    obtain rfl := Option.some.inj H
    go_wp2
    go_ret
    exact ⟨by first | rfl | (simp [errW_none, errW_some] <;> rfl) | (simp [*, errW_none, errW_some] <;> rfl), by repeat (first | (with_reducible first | exact HB.out | apply below_alloc | apply pw_below_drewN | apply below_drew1) | exact HB.out)⟩
end Go.Proofs.Ytcpojohpmcnnhaa.PA

set_option linter.unusedVariables false
set_option linter.unusedSimpArgs false
namespace Go.Proofs.Ytcpojohpmcnnhaa.K
abbrev Pack := Int × List Nat
def wt (L : List Pack) : Int := (L.map (·.1)).sum
section
variable {f : List Pack → List Pack} {ws : List Int} {single : List Pack}
end
end Go.Proofs.Ytcpojohpmcnnhaa.K

set_option linter.unusedVariables false
set_option linter.unusedSimpArgs false
namespace Go.Proofs.Ytcpojohpmcnnhaa.K
def far : Int := 1152921504606846976
def mnI (a b : Int) : Int := if b < a then b else a
def idx (n i o : Nat) : Nat := i * (n + 1) + o
def stepT (n : Nat) (rest : List Int) (i o : Nat) (cost : Int) (st : List Int × Int) (t : Nat) : List Int × Int :=
  if i + t = n then (st.1, mnI st.2 cost)
  else (st.1.set (idx n (i + t) (min n (2 * (o - t)))) (mnI (st.1.getD (idx n (i + t) (min n (2 * (o - t)))) 0) (cost + rest.getD (i + t) 0)), st.2)
def stepO (n : Nat) (rest best : List Int) (i : Nat) (st : List Int × Int) (o' : Nat) : List Int × Int :=
  if best.getD (idx n i (o' + 1)) 0 < far then (List.range (min (o' + 1) (n - i) + 1)).foldl (stepT n rest i (o' + 1) (best.getD (idx n i (o' + 1)) 0)) st else st
def stepI (n : Nat) (rest best : List Int) (st : List Int × Int) (i : Nat) : List Int × Int := (List.range n).foldl (stepO n rest best i) st
def costL (w : List Int) (ls : List Nat) : Int := ((w.zip ls).map fun p => p.1 * ((p.2 : Nat) : Int)).sum
def krL (v : Nat) (ls : List Nat) : Nat := (ls.map fun l => 2 ^ (v - l)).sum
theorem costL_append {w : List Int} {ls : List Nat} {k v : Nat} (h : ls.length ≤ w.length) : costL w (ls ++ List.replicate k v) = costL w ls + ((w.drop ls.length).take k).sum * (v : Int) := by
  induction ls generalizing w with
  | nil =>
    simp only [List.nil_append, List.length_nil, List.drop_zero]
    have e : costL w [] = 0 := by simp [costL]
    rw [e, Int.zero_add]
    induction k generalizing w with
    | zero => simp [costL]
    | succ k ih =>
      cases w with
      | nil => simp [costL]
      | cons x w =>
        have := ih (w := w) (by simp) (by simp [costL])
        simp only [costL, List.replicate_succ, List.zip_cons_cons, List.map_cons, List.sum_cons, List.take_succ_cons] at this ⊢
        rw [this, Int.add_mul]
  | cons l ls ih =>
    cases w with
    | nil => simp at h
    | cons x w =>
      have := ih (w := w) (by simpa using h)
      simp only [costL, List.cons_append, List.zip_cons_cons, List.map_cons, List.sum_cons, List.length_cons, List.drop_succ_cons] at this ⊢
      rw [this]; omega
theorem krL_succ {v : Nat} {ls : List Nat} (h : ∀ l, l ∈ ls → l ≤ v) : krL (v + 1) ls = 2 * krL v ls := by
  induction ls with
  | nil => rfl
  | cons l ls ih =>
    have h1 := ih (fun x hx => h x (by simp [hx]))
    have h2 := h l (by simp)
    simp only [krL, List.map_cons, List.sum_cons] at h1 ⊢
    rw [h1, show v + 1 - l = (v - l) + 1 by omega, Nat.pow_succ]
    omega
theorem krL_rep (v k : Nat) (ls : List Nat) : krL v (ls ++ List.replicate k v) = krL v ls + k := by simp [krL]
structure Held (w : List Int) (n v i o : Nat) (c : Int) : Prop where
  lt : i < n
  some : ∃ ls : List Nat, ls.length = i ∧ (∀ l, l ∈ ls → l < v) ∧ krL v ls + o ≤ 2 ^ v ∧ c = costL w ls + (w.drop i).sum * (v : Int)
def Done (w : List Int) (n v : Nat) (c : Int) : Prop := ∃ ls : List Nat, ls.length = n ∧ (∀ l, l ∈ ls → l ≤ v) ∧ krL v ls ≤ 2 ^ v ∧ c = costL w ls
theorem sum_drop (w : List Int) (i t : Nat) : (w.drop i).sum = ((w.drop i).take t).sum + (w.drop (i + t)).sum := by
  conv => lhs; rw [← List.take_append_drop t (w.drop i), List.sum_append, List.drop_drop]
theorem Held.next {w : List Int} {n v i o t : Nat} {c : Int} (h : Held w n v i o c) (hw : w.length = n) (ht : t ≤ o) (hi : i + t < n) (o' : Nat) (ho : o' ≤ 2 * (o - t)) : Held w n (v + 1) (i + t) o' (c + (w.drop (i + t)).sum) := by
  obtain ⟨ls, h1, h2, h3, rfl⟩ := h.some
  refine ⟨hi, ls ++ List.replicate t v, by simp [h1], fun l hl => ?_, ?_, ?_⟩
  · rcases List.mem_append.1 hl with hl | hl
    · have := h2 l hl; omega
    · rw [List.eq_of_mem_replicate hl]; omega
  · have e : krL (v + 1) (ls ++ List.replicate t v) = 2 * (krL v ls + t) := by
      rw [krL_succ, krL_rep]
      intro l hl
      rcases List.mem_append.1 hl with hl | hl
      · exact Nat.le_of_lt (h2 l hl)
      · rw [List.eq_of_mem_replicate hl]; omega
    rw [e, Nat.pow_succ]; omega
  · rw [costL_append (by omega), h1]
    have := sum_drop w i t
    rw [this]
    push_cast
    rw [Int.add_mul, Int.mul_add, Int.mul_one]
    omega
theorem Held.done {w : List Int} {n v i o : Nat} {c : Int} (h : Held w n v i o c) (hw : w.length = n) (ho : n - i ≤ o) : Done w n v c := by
  obtain ⟨ls, h1, h2, h3, rfl⟩ := h.some
  have hi := h.lt
  refine ⟨ls ++ List.replicate (n - i) v, by simp [h1]; omega, fun l hl => ?_, ?_, ?_⟩
  · rcases List.mem_append.1 hl with hl | hl
    · exact Nat.le_of_lt (h2 l hl)
    · rw [List.eq_of_mem_replicate hl]; exact Nat.le_refl _
  · rw [krL_rep]; omega
  · rw [costL_append (by omega), h1]
    rw [List.take_of_length_le (by rw [List.length_drop]; omega)]
end Go.Proofs.Ytcpojohpmcnnhaa.K

set_option linter.unusedVariables false
set_option linter.unusedSimpArgs false
namespace Go.Proofs.Ytcpojohpmcnnhaa.L
open Go.RowKit Go.Proofs.YtcpojohpmcnnhaaW.PrintWords Go.Proofs.YtcpojohpmcnnhaaW.PrintLast Go.Proofs.YtcpojohpmcnnhaaW.PrintMore
open Go.Proofs.Ytcpojohpmcnnhaa.PA Go.Proofs.Ytcpojohpmcnnhaa.A
theorem within_all (a b c : Int) : code_within.f a b c = some (decide (b ≤ a) && decide (a ≤ c)) := by
  unfold code_within.f
  by_cases h : a ≥ b
  · rw [if_pos h]; simp [h]
  · rw [if_neg h]; simp; omega
theorem w1 {q : Nat} (h : q ≤ 100000000) : wrap64 ((q : Int) + 1) = ((q + 1 : Nat) : Int) := by unfold wrap64; omega
theorem drop_cons {α : Type} {l : List α} {q : Nat} (h : q < l.length) (d : α) : l.drop q = l.getD q d :: l.drop (q + 1) := by
  rw [List.getD_eq_getElem?_getD, List.getElem?_eq_getElem h]
  exact List.drop_eq_getElem_cons h
theorem awake_ev : Ev (fun k => turndownlaw06_awake.f k) true := Ev.of (fun k => turndownlaw06_awake.mono k) (k := 200) (by decide +kernel)
end Go.Proofs.Ytcpojohpmcnnhaa.L

set_option linter.unusedVariables false
set_option linter.unusedSimpArgs false
namespace Go.Proofs.Ytcpojohpmcnnhaa.L
open Go.RowKit Go.Proofs.YtcpojohpmcnnhaaW.PrintWords Go.Proofs.YtcpojohpmcnnhaaW.PrintLast Go.Proofs.YtcpojohpmcnnhaaW.PrintMore
open Go.Proofs.Ytcpojohpmcnnhaa.PA Go.Proofs.Ytcpojohpmcnnhaa.A
def bitsS (s : ByteArray) : Bool := bitsB s.data.toList
def tapB (x : Int) : Bool := decide (1 ≤ x) && decide (x ≤ 15)
theorem tap_all (x : Int) : turndownref06_Tap.f x = some (tapB x) := by
  unfold turndownref06_Tap.f tapB
  by_cases h : x ≥ 1
  · rw [if_pos h]; simp [h]
  · rw [if_neg h]; simp; omega
theorem areTaps_all (x y : Int) : code_areTaps.f x y = some (tapB x && tapB y) := by
  unfold code_areTaps.f
  rw [within_all]
  simp only [Option.bind_some]
  by_cases h : tapB x = true
  · have h' : (decide (1 ≤ x) && decide (x ≤ 15)) = true := h
    rw [if_pos h', within_all, h]; rfl
  · have h' : ¬ (decide (1 ≤ x) && decide (x ≤ 15)) = true := h
    rw [if_neg h']
    have : tapB x = false := by simpa using h
    rw [this]; rfl
theorem bt_nat (s : ByteArray) {q : Nat} (h : q < s.size) : bt s (q : Int) = ((s.data.toList.getD q 0).toNat : Int) := by
  unfold bt
  rw [Int.toNat_natCast, dif_pos h, List.getD_eq_getElem?_getD, Array.getElem?_toList, Array.getElem?_eq_getElem (show q < s.data.size from h)]
  rfl
theorem bitsB_step {l : List UInt8} {q : Nat} (h : q < l.length) : bitsB (l.drop q) = ((l.getD q 0 == 48 || l.getD q 0 == 49) && bitsB (l.drop (q + 1))) := by
  rw [drop_cons h 0]
  simp only [bitsB, List.all_cons]
theorem bits_ev (s : ByteArray) (hs : s.size ≤ 1000000) : Ev (fun k => code_isBits.f k s) (bitsS s) := by
  have hl : s.data.toList.length = s.size := by rw [Array.length_toList]; rfl
  have key : ∀ e q, q + e = s.size → Ev (fun k => code_isBits.l0 k s (s.size : Int) (q : Int)) (bitsB (s.data.toList.drop q)) := by
    intro e
    induction e with
    | zero =>
      intro q hq
      refine Ev.step (fun k => ?_) (Ev.now _)
      rw [code_isBits.l0, if_neg (by omega), List.drop_of_length_le (by omega)]; rfl
    | succ e ih =>
      intro q hq
      have h1 := ih (q + 1) (by omega)
      rw [bitsB_step (by omega)]
      have hst : ∀ k, code_isBits.l0 (k + 1) s (s.size : Int) (q : Int) = if ((s.data.toList.getD q 0).toNat : Int) = 48 then code_isBits.l0 k s (s.size : Int) ((q + 1 : Nat) : Int) else if ((s.data.toList.getD q 0).toNat : Int) = 49 then code_isBits.l0 k s (s.size : Int) ((q + 1 : Nat) : Int) else some false := fun k => by
        rw [code_isBits.l0, if_pos (by omega), if_pos (by omega), if_pos (by omega), bt_nat s (by omega), w1 (by omega)]
      generalize s.data.toList.getD q 0 = c at *
      by_cases c1 : c = 48
      · refine Ev.step (fun k => ?_) (by rw [c1]; exact h1)
        rw [hst, if_pos (by rw [c1]; rfl)]
      · have n1 : ¬ ((c.toNat : Int) = 48) := fun h => c1 (UInt8.toNat_inj.1 (by rw [show c.toNat = 48 by omega]; rfl))
        by_cases c2 : c = 49
        · refine Ev.step (fun k => ?_) (by rw [c2]; exact h1)
          rw [hst, if_neg n1, if_pos (by rw [c2]; rfl)]
        · have n2 : ¬ ((c.toNat : Int) = 49) := fun h => c2 (UInt8.toNat_inj.1 (by rw [show c.toNat = 49 by omega]; rfl))
          refine Ev.step (fun k => ?_) (Ev.now _)
          rw [hst, if_neg n1, if_neg n2]
          have : (c == 48 || c == 49) = false := by simp [c1, c2]
          rw [this]; rfl
  have := key s.size 0 (by omega)
  rw [List.drop_zero] at this
  exact this
theorem refBits_ev (s : ByteArray) (hs : s.size ≤ 1000000) : Ev (fun k => turndownref06_Bits.f k s) (bitsS s) := by
  have hl : s.data.toList.length = s.size := by rw [Array.length_toList]; rfl
  have key : ∀ e q, q + e = s.size → Ev (fun k => turndownref06_Bits.l0 k s (q : Int)) (bitsB (s.data.toList.drop q)) := by
    intro e
    induction e with
    | zero =>
      intro q hq
      refine Ev.step (fun k => ?_) (Ev.now _)
      rw [turndownref06_Bits.l0, if_neg (by omega), List.drop_of_length_le (by omega)]; rfl
    | succ e ih =>
      intro q hq
      have h1 := ih (q + 1) (by omega)
      rw [bitsB_step (by omega)]
      have hst : ∀ k, turndownref06_Bits.l0 (k + 1) s (q : Int) = if ((s.data.toList.getD q 0).toNat : Int) = 48 then turndownref06_Bits.l0 k s ((q + 1 : Nat) : Int) else if ((s.data.toList.getD q 0).toNat : Int) = 49 then turndownref06_Bits.l0 k s ((q + 1 : Nat) : Int) else some false := fun k => by
        rw [turndownref06_Bits.l0, if_pos (by omega), if_pos (by omega), bt_nat s (by omega), w1 (by omega)]
      generalize s.data.toList.getD q 0 = c at *
      by_cases c1 : c = 48
      · refine Ev.step (fun k => ?_) (by rw [c1]; exact h1)
        rw [hst, if_pos (by rw [c1]; rfl)]
      · have n1 : ¬ ((c.toNat : Int) = 48) := fun h => c1 (UInt8.toNat_inj.1 (by rw [show c.toNat = 48 by omega]; rfl))
        by_cases c2 : c = 49
        · refine Ev.step (fun k => ?_) (by rw [c2]; exact h1)
          rw [hst, if_neg n1, if_pos (by rw [c2]; rfl)]
        · have n2 : ¬ ((c.toNat : Int) = 49) := fun h => c2 (UInt8.toNat_inj.1 (by rw [show c.toNat = 49 by omega]; rfl))
          refine Ev.step (fun k => ?_) (Ev.now _)
          rw [hst, if_neg n1, if_neg n2]
          have : (c == 48 || c == 49) = false := by simp [c1, c2]
          rw [this]; rfl
  have := key s.size 0 (by omega)
  rw [List.drop_zero] at this
  exact this
def cardS (s : ByteArray) (x y : Int) : ByteArray := ⟨(cardB x.toNat y.toNat (msgL s) (s.size + 3)).toArray⟩
def goodS (s : ByteArray) (x y : Int) : Bool := decide (s.size ≤ 64) && bitsS s && tapB x && tapB y
theorem tapsCard_f {s : ByteArray} {x y : Int} (h : goodS s x y = true) : code_taps_card.f x y s = some (cardS s x y) := by
  unfold goodS at h
  simp only [Bool.and_eq_true, decide_eq_true_eq] at h
  obtain ⟨⟨⟨h1, h2⟩, h3⟩, h4⟩ := h
  unfold tapB at h3 h4
  simp at h3 h4
  unfold code_taps_card.f
  rw [if_pos ⟨⟨by omega, by omega, by omega, by omega⟩, h2, by omega⟩]
  rfl
def cardR (s : ByteArray) (x y : Int) : ByteArray × Int := if goodS s x y = true then (cardS s x y, 0) else (⟨#[]⟩, 2)
theorem card_ev (s : ByteArray) (x y : Int) (hs : s.size ≤ 1000000) : Ev (fun k => code_Card.f k s x y) (cardR s x y) := by
  unfold cardR
  by_cases h1 : (s.size : Int) > 64
  · have hg : ¬ goodS s x y = true := by unfold goodS; simp; omega
    rw [if_neg hg]
    refine Ev.congr (fun k => ?_) (Ev.now _)
    unfold code_Card.f
    rw [if_pos h1]
  · have hg1 : decide (s.size ≤ 64) = true := decide_eq_true (by omega)
    refine Ev.congr (fun k => ?_) (Ev.bind (f := fun k (t141 : Bool) => (if t141 = true then ((code_areTaps.f x y).bind fun t142 => (if t142 = true then ((code_taps_card.f x y s).bind fun t143 => (some (t143, (0 : Int)))) else (some ((⟨#[]⟩ : ByteArray), (2 : Int))))) else (some ((⟨#[]⟩ : ByteArray), (2 : Int))))) (bits_ev s hs) ?_)
    · unfold code_Card.f
      rw [if_neg h1]
    · by_cases h2 : bitsS s = true
      · simp only [h2, if_true, areTaps_all, Option.bind_some]
        by_cases h3 : (tapB x && tapB y) = true
        · have hg : goodS s x y = true := by
            unfold goodS
            rw [hg1, h2, Bool.true_and, Bool.true_and]; exact h3
          simp only [if_pos h3, tapsCard_f hg, Option.bind_some, if_pos hg]
          exact Ev.now _
        · have hg : ¬ goodS s x y = true := by
            unfold goodS
            rw [hg1, h2, Bool.true_and, Bool.true_and]; exact h3
          simp only [if_neg h3, if_neg hg]
          exact Ev.now _
      · have hg : ¬ goodS s x y = true := by
          unfold goodS
          simp only [Bool.and_eq_true]
          rintro ⟨⟨⟨_, h⟩, _⟩, _⟩
          exact h2 h
        simp only [if_neg h2, if_neg hg]
        exact Ev.now _
end Go.Proofs.Ytcpojohpmcnnhaa.L

namespace Go.Proofs.Ytcpojohpmcnnhaa.PA
open Go.RowKit Go.Proofs.YtcpojohpmcnnhaaW.PrintWords Go.Proofs.YtcpojohpmcnnhaaW.PrintLast Go.Proofs.YtcpojohpmcnnhaaW.PrintMore
attribute [local go_sem] max2_int min2_int max_two min_two max_three min_three max_four min_four
set_option linter.unusedVariables false
set_option linter.unusedSimpArgs false
def turndownref06_ones.f (k : Nat) (a0 : Int) (a1 : Int) (a2 : Int) (a3 : Int) : Option (Int) := (turndownref06_output.f k a2 (wrap64 ((wrap64 (2 * a0)) + a1))).bind fun t306 => ((turndownref06_output.f k a3 (wrap64 ((wrap64 (2 * a0)) + a1))).bind fun t307 => (some (((t306 - 48) % 256) + ((t307 - 48) % 256))))
set_option maxHeartbeats 8000000 in
set_option maxRecDepth 100000 in
theorem turndownref06_ones.calls (k : Nat) (a0 : Int) (a1 : Int) (a2 : Int) (a3 : Int) (r : Int) (w : World) (h : turndownref06_ones.f k a0 a1 a2 a3 = some r) :
  Calls Try.prog 65 #[.int .i64 a0, .int .i64 a1, .int .i64 a2, .int .i64 a3] w fun e w' => e = .returned (.int .i64 r) ∧ Drawn0 w w' := by
 have H : ((turndownref06_output.f k a2 (wrap64 ((wrap64 (2 * a0)) + a1))).bind fun t306 => ((turndownref06_output.f k a3 (wrap64 ((wrap64 (2 * a0)) + a1))).bind fun t307 => (some (((t306 - 48) % 256) + ((t307 - 48) % 256))))) = some r := h
 clear h
 replace H := Option.bind_eq_some_iff.mp H
 obtain ⟨t306, A50, H⟩ := H
 replace H : ((turndownref06_output.f k a3 (wrap64 ((wrap64 (2 * a0)) + a1))).bind fun t307 => (some (((t306 - 48) % 256) + ((t307 - 48) % 256)))) = some r := H
 have A5 := Aside0.mk A50
 clear A50
 replace H := Option.bind_eq_some_iff.mp H
 obtain ⟨t307, A60, H⟩ := H
 replace H : (some (((t306 - 48) % 256) + ((t307 - 48) % 256))) = some r := H
 have A6 := Aside0.mk A60
 clear A60
 obtain rfl := Option.some.inj H
 go_enter Try.func65, Try.ntmps65
 go_wp2_with (first | ((with_reducible refine gate_callee (f := 61) rfl ?_); refine goesL_ (some 16) rfl rfl Try.func61 (by kernel_rfl) rfl #[.int .i64 a2, .int .i64 (wrap64 ((wrap64 (2 * a0)) + a1))] rfl (by (try simp only [List.map_toArray, List.map_cons, List.map_nil]); first | done | rfl | (simp only [List.length_drop, List.length_take]; rfl)) ?_; (with_reducible refine (turndownref06_output.calls k a2 (wrap64 ((wrap64 (2 * a0)) + a1)) t306 _ A5.out).mono ?_); rintro e w' ⟨rfl, ⟨nd, rfl⟩⟩; refine ⟨_, rfl, ?_⟩) | ((with_reducible refine gate_callee (f := 61) rfl ?_); refine goesL_ (some 21) rfl rfl Try.func61 (by kernel_rfl) rfl #[.int .i64 a3, .int .i64 (wrap64 ((wrap64 (2 * a0)) + a1))] rfl (by (try simp only [List.map_toArray, List.map_cons, List.map_nil]); first | done | rfl | (simp only [List.length_drop, List.length_take]; rfl)) ?_; (with_reducible refine (turndownref06_output.calls k a3 (wrap64 ((wrap64 (2 * a0)) + a1)) t307 _ A6.out).mono ?_); rintro e w' ⟨rfl, ⟨nd, rfl⟩⟩; refine ⟨_, rfl, ?_⟩))
 go_ret
 exact ⟨by first | rfl | (simp; done) | (simp [*]; done), by repeat (first | exact Drawn0.refl _ | apply Drawn0.step)⟩
end Go.Proofs.Ytcpojohpmcnnhaa.PA

set_option linter.unusedVariables false
set_option linter.unusedSimpArgs false
namespace Go.Proofs.Ytcpojohpmcnnhaa.A
open Go.RowKit Go.Proofs.YtcpojohpmcnnhaaW.PrintWords Go.Proofs.YtcpojohpmcnnhaaW.PrintLast Go.Proofs.YtcpojohpmcnnhaaW.PrintMore
open Go.Proofs.Ytcpojohpmcnnhaa.PA
theorem wsm {x : Int} (h : 0 ≤ x ∧ x ≤ 1000000) : wrap64 x = x := by unfold wrap64; omega
theorem ones_f {g h a b : Nat} (hg : g < 16) (hh : h < 16) (ha : a < 8) (hb : b < 2) : turndownref06_ones.f 10 (a : Int) (b : Int) (g : Int) (h : Int) = some (wtI g h (2 * a + b)) := by
  unfold turndownref06_ones.f
  have e : wrap64 (wrap64 (2 * (a : Int)) + (b : Int)) = ((2 * a + b : Nat) : Int) := by
    rw [wsm (x := 2 * (a : Int)) (by omega), wsm (by omega)]; omega
  rw [e]
  have h1 := output_tab ⟨g, hg⟩ ⟨2 * a + b, by omega⟩
  have h2 := output_tab ⟨h, hh⟩ ⟨2 * a + b, by omega⟩
  simp only at h1 h2
  rw [h1, h2]
  simp only [Option.bind_some]
  have p1 := parN_01 g (2 * a + b)
  have p2 := parN_01 h (2 * a + b)
  unfold wtI
  rw [Option.some.injEq]
  omega
theorem ones_c {g h a b : Nat} (hg : g < 16) (hh : h < 16) (ha : a < 8) (hb : b < 2) (w : World) :
    Calls Try.prog 65 #[.int .i64 (a : Int), .int .i64 (b : Int), .int .i64 (g : Int), .int .i64 (h : Int)] w fun e w' => e = .returned (.int .i64 (wtI g h (2 * a + b))) ∧ Below w.heap.size w w' :=
  (turndownref06_ones.calls 10 _ _ _ _ _ w (ones_f hg hh ha hb)).mono (by rintro e w' ⟨rfl, nd, rfl⟩; exact ⟨rfl, pw_below_drewN (Below.refl _ _) nd⟩)
theorem ones_c0 {g h a : Nat} (hg : g < 16) (hh : h < 16) (ha : a < 8) (w : World) :
    Calls Try.prog 65 #[.int .i64 (a : Int), .int .i64 0, .int .i64 (g : Int), .int .i64 (h : Int)] w fun e w' => e = .returned (.int .i64 (wtI g h (2 * a))) ∧ Below w.heap.size w w' :=
  ones_c hg hh ha (b := 0) (by omega) w
def tailR (g h s : Nat) : Int := wtI g h (2 * s) + wtI g h (2 * (2 * s % 8)) + wtI g h (2 * (2 * (2 * s % 8) % 8))
def bestF (g h : Nat) (now : List Int) (best : Int) : Nat → Int
  | 0 => best
  | t + 1 => if now.getD t 0 ≥ 1152921504606846976 then bestF g h now best t else min (bestF g h now best t) (now.getD t 0 + tailR g h t)
def farR : List Int := [1152921504606846976, 1152921504606846976, 1152921504606846976, 1152921504606846976, 1152921504606846976, 1152921504606846976, 1152921504606846976, 1152921504606846976]
def nextF (g h : Nat) (now : List Int) : Nat → List Int
  | 0 => farR
  | q + 1 => if now.getD (q / 2) 0 < 1152921504606846976 then (nextF g h now q).set (q % 8) (min ((nextF g h now q).getD (q % 8) 0) (now.getD (q / 2) 0 + wtI g h q)) else nextF g h now q
def freeF (g h : Nat) : Nat → Int × List Int
  | 0 => (1152921504606846976, farR.set 1 (wtI g h 1))
  | k + 1 => (bestF g h (freeF g h k).2 (freeF g h k).1 8, nextF g h (freeF g h k).2 16)
theorem nextF_len (g h : Nat) (now : List Int) : ∀ q, (nextF g h now q).length = 8
  | 0 => rfl
  | q + 1 => by
    unfold nextF
    split
    · rw [List.length_set]; exact nextF_len g h now q
    · exact nextF_len g h now q
theorem freeF_len (g h : Nat) : ∀ k, (freeF g h k).2.length = 8
  | 0 => rfl
  | k + 1 => by unfold freeF; exact nextF_len _ _ _ _
theorem tailR_bd (g h s : Nat) : 0 ≤ tailR g h s ∧ tailR g h s ≤ 6 := by
  have h1 := wtI_bd g h (2 * s)
  have h2 := wtI_bd g h (2 * (2 * s % 8))
  have h3 := wtI_bd g h (2 * (2 * (2 * s % 8) % 8))
  unfold tailR; omega
theorem farR_bd (j : Nat) : 0 ≤ farR.getD j 0 ∧ farR.getD j 0 ≤ 1152921504606846976 := by
  match j with
  | 0 | 1 | 2 | 3 | 4 | 5 | 6 | 7 => simp [farR]
  | j + 8 => simp [farR]
theorem nextF_bd {g h : Nat} {now : List Int} (hn : ∀ j, 0 ≤ now.getD j 0) : ∀ q j, 0 ≤ (nextF g h now q).getD j 0 ∧ (nextF g h now q).getD j 0 ≤ 1152921504606846976
  | 0, j => farR_bd j
  | q + 1, j => by
    have ih := nextF_bd (g := g) (h := h) hn q
    unfold nextF
    split
    · refine set_bd ih ?_ j
      have h1 := ih (q % 8)
      have h2 := hn (q / 2)
      have h3 := wtI_bd g h q
      omega
    · exact ih j
theorem freeF_bd (g h : Nat) : ∀ k j, 0 ≤ (freeF g h k).2.getD j 0 ∧ (freeF g h k).2.getD j 0 ≤ 1152921504606846976
  | 0, j => by
    rw [freeF]
    have := wtI_bd g h 1
    exact set_bd farR_bd (by omega) j
  | k + 1, j => by
    rw [freeF]
    exact nextF_bd (fun j => (freeF_bd g h k j).1) 16 j
theorem bestF_bd {g h : Nat} {now : List Int} {best : Int} (hn : ∀ j, 0 ≤ now.getD j 0) (hb : 0 ≤ best ∧ best ≤ 1152921504606846976) : ∀ t, 0 ≤ bestF g h now best t ∧ bestF g h now best t ≤ 1152921504606846976
  | 0 => hb
  | t + 1 => by
    have ih := bestF_bd (g := g) (h := h) hn hb t
    have h1 := hn t
    have h2 := tailR_bd g h t
    unfold bestF
    split
    · exact ih
    · omega
theorem freeF_best (g h : Nat) : ∀ k, 0 ≤ (freeF g h k).1 ∧ (freeF g h k).1 ≤ 1152921504606846976
  | 0 => by simp [freeF]
  | k + 1 => by
    rw [freeF]
    exact bestF_bd (fun j => (freeF_bd g h k j).1) (freeF_best g h k) 8
def fillR (k : Nat) : List Int := (List.range 8).map (fun t => if t < k then 1152921504606846976 else 0)
theorem fillR_succ {k : Nat} (hk : k < 8) : (fillR k).set k 1152921504606846976 = fillR (k + 1) := by
  match k, hk with
  | 0, _ | 1, _ | 2, _ | 3, _ | 4, _ | 5, _ | 6, _ | 7, _ => rfl
  | k + 8, h => omega
theorem fillR_len (k : Nat) : (fillR k).length = 8 := by simp [fillR]
set_option maxHeartbeats 8000000 in
set_option maxRecDepth 100000 in
theorem refFree_c (g h : Nat) (w : World) (hg : g < 16) (hh : h < 16) :
    Calls Try.prog 37 #[.int .i64 (g : Int), .int .i64 (h : Int)] w fun e w' => e = .returned (.int .i64 (freeF g h 64).1) ∧ Below w.heap.size w w' := by
  go_enter Try.func37, Try.ntmps37
  go_wp2_with fail
  obtain ⟨w1, hw1⟩ : ∃ w1, w.alloc (Obj.cells #[.int .i64 0, .int .i64 0, .int .i64 0, .int .i64 0, .int .i64 0, .int .i64 0, .int .i64 0, .int .i64 0] 81) = w1 := ⟨_, rfl⟩
  rw [hw1]
  have hz1 : w1.heap.size = w.heap.size + 1 := by rw [← hw1]; simp
  have hB1 : Below w.heap.size w w1 := by rw [← hw1]; exact (Below.refl _ _).alloc (Nat.le_refl _) _
  have h1 : w1.heap[w.heap.size]? = some (.cells (arr8 (fillR 0)) 81 (0, 0)) := by rw [← hw1]; exact heap_alloc_new _ _
  have HB1 := Lib.hid hB1
  have H1 := Lib.hid h1
  clear hw1 hB1 h1
  obtain ⟨B, hB⟩ : ∃ B, w.heap.size = B := ⟨_, rfl⟩
  rw [hB] at H1 hz1 ⊢
  go_loopw [7] (fun v7 wr => ∃ k : Nat, v7 = .int .i64 (k : Int) ∧ k ≤ 8 ∧ Hid (wr.heap[B]? = some (.cells (arr8 (fillR k)) 81 (0, 0))) ∧ Hid (R.Keeps [B] w1 wr)) (fun v7 _ => 8 - (intOf v7).toNat)
  case atStart => exact ⟨0, rfl, Nat.zero_le _, H1, Lib.hid (R.Keeps.refl _ _)⟩
  case round =>
    rename World => wr
    obtain ⟨k, rfl, hk, HA, HK⟩ := hrel
    by_cases hlt : k < 8
    · have hlt' : (k : Int) < 8 := by omega
      have hk0 : (0 : Int) ≤ (k : Int) := by omega
      have f1 : wr.frozen? ⟨B, k, none⟩ = false := arr_frozen HA.out k
      have c1 : wr.cell? ⟨B, k, none⟩ = some (.int .i64 ((fillR k).getD k 0)) := arr_cell HA.out hlt
      go_wp2_with fail
      refine ⟨⟨k + 1, by go_num, by omega, ?_, Lib.hid (HK.out.setCell (fun _ => by simp) _)⟩, by simp [intOf]; omega⟩
      rw [← fillR_succ hlt]
      exact Lib.hid (arr_set HA.out (fillR_len k) hlt _)
    · obtain rfl : k = 8 := by omega
      simp only [show ((8 : Nat) : Int) = 8 from rfl]
      have HWT := Lib.hid (ones_c hg hh (a := 0) (b := 1) (by omega) (by omega) wr)
      have hszr := HK.out.size
      go_wp2_with fail
      refine HWT.out.mono ?_
      rintro e w2 ⟨rfl, hB2⟩
      have hA2 : w2.heap[B]? = some (.cells (arr8 (fillR 8)) 81 (0, 0)) := (hB2.block _ (by omega)).trans HA.out
      have f1 : w2.frozen? ⟨B, 1, none⟩ = false := arr_frozen hA2 1
      have c1 : w2.cell? ⟨B, 1, none⟩ = some (.int .i64 ((fillR 8).getD 1 0)) := arr_cell hA2 (by omega)
      have hA3 : Hid ((w2.setCell ⟨B, 1, none⟩ (.int .i64 (wtI g h 1))).heap[B]? = some (.cells (arr8 (freeF g h 0).2) 81 (0, 0))) := Lib.hid (arr_set hA2 (fillR_len 8) (by omega) _)
      have hK3 : Hid (R.Keeps [B] w1 (w2.setCell ⟨B, 1, none⟩ (.int .i64 (wtI g h 1)))) := Lib.hid ((HK.out.trans (R.Keeps.of_below [] hB2) (fun k hk => by simp at hk)).setCell (fun _ => by simp) _)
      have HA2 := Lib.hid hA2
      clear hB2 hA2
      simp only [show 2 * 0 + 1 = 1 from rfl]
      obtain ⟨p1, hp1⟩ : ∃ p1, wtI g h 1 = p1 := ⟨_, rfl⟩
      rw [hp1] at hA3 hK3 ⊢
      go_wp2_with fail
      clear f1 c1 HA2
      generalize w2.setCell ⟨B, 1, none⟩ (.int .i64 p1) = w3 at hA3 hK3 ⊢
      go_loopw [5, 8, 10, 11] (fun v5 v8 _ _ wo => ∃ k : Nat, v8 = .int .i64 ((k : Int) + 1) ∧ v5 = .int .i64 (freeF g h k).1 ∧ k ≤ 64 ∧ Hid (wo.heap[B]? = some (.cells (arr8 (freeF g h k).2) 81 (0, 0))) ∧ Hid (R.Keeps [B] w1 wo)) (fun _ v8 _ _ _ => 65 - (intOf v8).toNat)
      case atStart => exact ⟨0, rfl, rfl, Nat.zero_le _, hA3, hK3⟩
      case round =>
        rename World => wo
        obtain ⟨k, rfl, rfl, hk64, HA, HK⟩ := hrel
        obtain ⟨best, hbest⟩ : ∃ best, (freeF g h k).1 = best := ⟨_, rfl⟩
        obtain ⟨now, hnow⟩ : ∃ now, (freeF g h k).2 = now := ⟨_, rfl⟩
        have hbb := freeF_best g h k
        have hnb := freeF_bd g h k
        have hnl := freeF_len g h k
        have hnext : freeF g h (k + 1) = (bestF g h (freeF g h k).2 (freeF g h k).1 8, nextF g h (freeF g h k).2 16) := by rw [freeF]
        rw [hbest, hnow] at hnext
        rw [hnow] at HA hnb hnl
        rw [hbest] at hbb ⊢
        have HN := Lib.hid hnext
        have HNB := Lib.hid hnb
        have HNL := Lib.hid hnl
        have HBE := Lib.hid hbest
        clear hnext hnb hnl hnow hbest
        by_cases hk2 : k < 64
        · have hk2' : (k : Int) + 1 ≤ 64 := by omega
          have hszo := HK.out.size
          have hBo : B < wo.heap.size := by omega
          have NC : Hid (∀ (W : World) (j : Nat), R.Keeps [] wo W → j < 8 → W.cell? ⟨B, j, none⟩ = some (.int .i64 (now.getD j 0))) := Lib.hid (fun W j hW hj => hW.cell (arr_cell HA.out hj) (by simp))
          go_wp2_with fail
          go_loopw [5, 9, 10, 11] (fun v5 v9 _ _ wi => ∃ t : Nat, v9 = .int .i64 (t : Int) ∧ v5 = .int .i64 (bestF g h now best t) ∧ t ≤ 8 ∧ Hid (R.Keeps [] wo wi)) (fun _ v9 _ _ _ => 8 - (intOf v9).toNat)
          case atStart => exact ⟨0, rfl, rfl, Nat.zero_le _, Lib.hid (R.Keeps.refl _ _)⟩
          case round =>
            rename World => wi
            obtain ⟨t, rfl, rfl, ht, HKi⟩ := hrel
            obtain ⟨bc, hbc⟩ : ∃ bc, bestF g h now best t = bc := ⟨_, rfl⟩
            have hbcb := bestF_bd (g := g) (h := h) (now := now) (best := best) (fun j => (HNB.out j).1) hbb t
            have hbn : bestF g h now best (t + 1) = if now.getD t 0 ≥ 1152921504606846976 then bc else min bc (now.getD t 0 + tailR g h t) := by rw [← hbc]; rfl
            rw [hbc] at hbcb ⊢
            have HBC := Lib.hid hbc
            by_cases ht8 : t < 8
            · have ht8' : (t : Int) < 8 := by omega
              have ht0 : (0 : Int) ≤ (t : Int) := by omega
              have hix := NC.out wi t HKi.out ht8
              have hnt := HNB.out t
              obtain ⟨y, hy⟩ : ∃ y, now.getD t 0 = y := ⟨_, rfl⟩
              rw [hy] at hix hnt hbn
              clear hy hbc
              by_cases hge : y ≥ 1152921504606846976
              · rw [if_pos hge] at hbn
                have HBN := Lib.hid hbn
                clear hbn
                have hge' : (1152921504606846976 : Int) ≤ y := hge
                have hge'' : ¬ y < 1152921504606846976 := by omega
                go_wp2_with fail
                refine ⟨⟨t + 1, by go_num, by rw [HBN.out], by omega, HKi⟩, by simp [intOf]; omega⟩
              · rw [if_neg hge] at hbn
                obtain ⟨a1, ha1⟩ : ∃ a1, 2 * t % 8 = a1 := ⟨_, rfl⟩
                obtain ⟨a2, ha2⟩ : ∃ a2, 2 * a1 % 8 = a2 := ⟨_, rfl⟩
                have ht1 : tailR g h t = wtI g h (2 * t) + wtI g h (2 * a1) + wtI g h (2 * a2) := by unfold tailR; rw [ha1, ha2]
                have HC1 := Lib.hid (fun W => ones_c0 (g := g) (h := h) (a := t) hg hh ht8 W)
                have HC2 := Lib.hid (fun W => ones_c0 (g := g) (h := h) (a := a1) hg hh (by omega) W)
                have HC3 := Lib.hid (fun W => ones_c0 (g := g) (h := h) (a := a2) hg hh (by omega) W)
                have b1 := wtI_bd g h (2 * t)
                have b2 := wtI_bd g h (2 * a1)
                have b3 := wtI_bd g h (2 * a2)
                obtain ⟨p1, hp1⟩ : ∃ p1, wtI g h (2 * t) = p1 := ⟨_, rfl⟩
                obtain ⟨p2, hp2⟩ : ∃ p2, wtI g h (2 * a1) = p2 := ⟨_, rfl⟩
                obtain ⟨p3, hp3⟩ : ∃ p3, wtI g h (2 * a2) = p3 := ⟨_, rfl⟩
                rw [hp1] at b1 ht1 HC1
                rw [hp2] at b2 ht1 HC2
                rw [hp3] at b3 ht1 HC3
                rw [ht1] at hbn
                have HBN := Lib.hid hbn
                clear hbn ht1 hp1 hp2 hp3
                have hlt' : y < 1152921504606846976 := by omega
                have hge' : ¬ (1152921504606846976 : Int) ≤ y := by omega
                go_wp2_with fail
                refine wp_loop_rounds 4 ?_
                rw [rounds_succ]
                go_wp2_with fail
                refine (HC1.out _).mono ?_
                rintro e w4 ⟨rfl, hB4⟩
                have HK4 := Lib.hid (HKi.out.trans (R.Keeps.of_below [] hB4) (fun k hk => by simp at hk))
                clear hB4
                go_wp2_with fail
                rw [rounds_succ]
                go_wp2_with fail
                rw [show (2 * (t : Int) % 8) = (a1 : Int) by omega]
                refine (HC2.out _).mono ?_
                rintro e w5 ⟨rfl, hB5⟩
                have HK5 := Lib.hid (HK4.out.trans (R.Keeps.of_below [] hB5) (fun k hk => by simp at hk))
                clear hB5
                go_wp2_with fail
                rw [rounds_succ]
                go_wp2_with fail
                rw [show (2 * (a1 : Int) % 8) = (a2 : Int) by omega]
                refine (HC3.out _).mono ?_
                rintro e w6 ⟨rfl, hB6⟩
                have HK6 := Lib.hid (HK5.out.trans (R.Keeps.of_below [] hB6) (fun k hk => by simp at hk))
                clear hB6
                go_wp2_with fail
                rw [rounds_succ]
                go_wp2_with fail
                refine ⟨⟨t + 1, by go_num, by rw [HBN.out, Int.add_assoc, Int.add_assoc, Int.add_assoc], by omega, HK6⟩, by simp [intOf]; omega⟩
            · obtain rfl : t = 8 := by omega
              simp only [show ((8 : Nat) : Int) = 8 from rfl]
              rw [← hbc]
              clear HBC hbn hbcb hbc
              go_wp2_with fail
              obtain ⟨wn, hwn⟩ : ∃ wn, wi.alloc (Obj.cells #[.int .i64 0, .int .i64 0, .int .i64 0, .int .i64 0, .int .i64 0, .int .i64 0, .int .i64 0, .int .i64 0] 81) = wn := ⟨_, rfl⟩
              rw [hwn]
              obtain ⟨nb, hnb⟩ : ∃ nb, wi.heap.size = nb := ⟨_, rfl⟩
              have hn : wn.heap[nb]? = some (.cells (arr8 (fillR 0)) 81 (0, 0)) := by
                rw [← hwn, ← hnb]
                exact heap_alloc_new _ _
              have hKn : R.Keeps [] wo wn := by rw [← hwn]; exact HKi.out.alloc _
              have hszi := HKi.out.size
              rw [hnb] at hszi ⊢
              have HNn := Lib.hid hn
              have HKn := Lib.hid hKn
              clear hwn hn hKn hnb
              go_loopw [14] (fun v14 wr => ∃ q : Nat, v14 = .int .i64 (q : Int) ∧ q ≤ 8 ∧ Hid (wr.heap[nb]? = some (.cells (arr8 (fillR q)) 81 (0, 0))) ∧ Hid (R.Keeps [] wo wr)) (fun v14 _ => 8 - (intOf v14).toNat)
              case atStart => exact ⟨0, rfl, Nat.zero_le _, HNn, HKn⟩
              case round =>
                rename World => wr
                obtain ⟨q, rfl, hq, HA', HK'⟩ := hrel
                by_cases hlt : q < 8
                · have hlt' : (q : Int) < 8 := by omega
                  have hq0 : (0 : Int) ≤ (q : Int) := by omega
                  have f1 : wr.frozen? ⟨nb, q, none⟩ = false := arr_frozen HA'.out q
                  have c1 : wr.cell? ⟨nb, q, none⟩ = some (.int .i64 ((fillR q).getD q 0)) := arr_cell HA'.out hlt
                  go_wp2_with fail
                  refine ⟨⟨q + 1, by go_num, by omega, ?_, Lib.hid (HK'.out.setCell (fun h => by simp at h; omega) _)⟩, by simp [intOf]; omega⟩
                  rw [← fillR_succ hlt]
                  exact Lib.hid (arr_set HA'.out (fillR_len q) hlt _)
                · obtain rfl : q = 8 := by omega
                  simp only [show ((8 : Nat) : Int) = 8 from rfl]
                  have HA8 : Hid (wr.heap[nb]? = some (.cells (arr8 (nextF g h now 0)) 81 (0, 0))) := Lib.hid HA'.out
                  clear HA'
                  go_wp2_with fail
                  go_loopw [15] (fun v15 wq => ∃ u : Nat, v15 = .int .i64 (u : Int) ∧ u ≤ 8 ∧ Hid (wq.heap[nb]? = some (.cells (arr8 (nextF g h now (2 * u))) 81 (0, 0))) ∧ Hid (R.Keeps [] wo wq)) (fun v15 _ => 8 - (intOf v15).toNat)
                  case atStart => exact ⟨0, rfl, Nat.zero_le _, HA8, HK'⟩
                  case round =>
                    rename World => wq
                    obtain ⟨u, rfl, hu, HAq, HKq⟩ := hrel
                    by_cases hu8 : u < 8
                    · have hu8' : (u : Int) < 8 := by omega
                      have hu0 : (0 : Int) ≤ (u : Int) := by omega
                      have hnt := HNB.out u
                      obtain ⟨y, hy⟩ : ∃ y, now.getD u 0 = y := ⟨_, rfl⟩
                      have NU : Hid (∀ (W : World), R.Keeps [] wo W → W.cell? ⟨B, u, none⟩ = some (.int .i64 y)) := Lib.hid (fun W hW => by rw [← hy]; exact NC.out W u hW hu8)
                      rw [hy] at hnt
                      have HY := Lib.hid hy
                      clear hy
                      go_wp2_with fail
                      go_loopw [16] (fun v16 wz => ∃ c : Nat, v16 = .int .i64 (c : Int) ∧ c ≤ 2 ∧ Hid (wz.heap[nb]? = some (.cells (arr8 (nextF g h now (2 * u + c))) 81 (0, 0))) ∧ Hid (R.Keeps [] wo wz)) (fun v16 _ => 2 - (intOf v16).toNat)
                      case atStart => exact ⟨0, rfl, Nat.zero_le _, HAq, HKq⟩
                      case round =>
                        rename World => wz
                        obtain ⟨c, rfl, hc, HAz, HKz⟩ := hrel
                        by_cases hc2 : c < 2
                        · have hc2' : (c : Int) < 2 := by omega
                          obtain ⟨v, hv⟩ : ∃ v, 2 * u + c = v := ⟨_, rfl⟩
                          obtain ⟨m, hm⟩ : ∃ m, v % 8 = m := ⟨_, rfl⟩
                          have hm8 : m < 8 := by omega
                          have hu2 : v / 2 = u := by omega
                          have hnew : nextF g h now (v + 1) = if y < 1152921504606846976 then (nextF g h now v).set m (min ((nextF g h now v).getD m 0) (y + wtI g h v)) else nextF g h now v := by
                            rw [nextF, hm, hu2, HY.out]
                          rw [hv] at HAz
                          have hcu := nextF_bd (g := g) (h := h) (now := now) (fun j => (HNB.out j).1) v m
                          have hlen := nextF_len g h now v
                          obtain ⟨xs, hxs⟩ : ∃ xs, nextF g h now v = xs := ⟨_, rfl⟩
                          rw [hxs] at hnew HAz hcu hlen
                          obtain ⟨cur, hcur⟩ : ∃ cur, xs.getD m 0 = cur := ⟨_, rfl⟩
                          rw [hcur] at hnew hcu
                          have hwt := wtI_bd g h v
                          have HCUR := Lib.hid hcur
                          have HLEN := Lib.hid hlen
                          have HUV := Lib.hid (show 2 * u + (c + 1) = v + 1 by omega)
                          have hmv : (2 * (u : Int) + (c : Int)) % 8 = (m : Int) := by omega
                          clear hcur hxs hlen hm hu2
                          have hix := NU.out wz HKz.out
                          by_cases hlty : y < 1152921504606846976
                          · rw [if_pos hlty] at hnew
                            have CW := Lib.hid (fun W => ones_c (g := g) (h := h) (a := u) (b := c) hg hh hu8 hc2 W)
                            rw [hv] at CW
                            obtain ⟨p, hp⟩ : ∃ p, wtI g h v = p := ⟨_, rfl⟩
                            rw [hp] at hwt CW hnew
                            have HNEW := Lib.hid hnew
                            clear hp hnew
                            have hwr : IntKind.i64.wrap (y + p) = y + p := IntWalk.i64_in _ (by omega)
                            have HWR := Lib.hid hwr
                            have CE : Hid (∀ w', R.Keeps [] wz w' → w'.cell? ⟨nb, m, none⟩ = some (.int .i64 cur)) := Lib.hid (fun w' h => h.cell (by rw [← HCUR.out]; exact arr_cell HAz.out hm8) (by simp))
                            have CU : Hid (∀ w', R.Keeps [] wz w' → w'.cell? ⟨B, u, none⟩ = some (.int .i64 y)) := Lib.hid (fun w' h => h.cell (NU.out wz HKz.out) (by simp))
                            have hm0 : (0 : Int) ≤ (m : Int) := by omega
                            have hm8' : (m : Int) < 8 := by omega
                            clear hwr
                            have HMV := Lib.hid hmv
                            clear hmv
                            go_wp2_with fail
                            rw [HMV.out]
                            clear hix
                            apply R.wp_region_text [0, 1, 2, 3, 4, 5, 6, 7, 8, 9, 10] [11, 12, 13, 14, 15] 14 (R.Keeps [] wz)
                            case hm => kernel_rfl
                            case hB => kernel_rfl
                            case hd => rfl
                            case hQ => exact fun _ _ _ _ _ h => h
                            case hS => exact (R.Keeps.refl _ _).drew
                            case hF =>
                              intro w' hS
                              have yx := CE.out w' hS
                              have yu := CU.out w' hS
                              clear hS
                              simp only [R.pickC, List.filterMap_cons, List.getElem?_toArray, List.getElem?_cons_zero, List.getElem?_cons_succ, List.filterMap_nil]
                              (with_reducible refine R.wpStill_plain rfl (fun K hK => ?_)); go_simp; with_reducible refine hK _ ?_; clear hK K
                              (with_reducible refine R.wpStill_plain rfl (fun K hK => ?_)); go_simp; with_reducible refine hK _ ?_; clear hK K
                              (with_reducible refine R.wpStill_plain rfl (fun K hK => ?_)); go_simp; with_reducible refine hK _ ?_; clear hK K
                              (with_reducible refine R.wpStill_plain rfl (fun K hK => ?_)); go_simp; with_reducible refine hK _ ?_; clear hK K
                              (with_reducible refine R.wpStill_plain rfl (fun K hK => ?_)); go_simp; with_reducible refine hK _ ?_; clear hK K
                              (with_reducible refine R.wpStill_plain rfl (fun K hK => ?_)); go_simp; with_reducible refine hK _ ?_; clear hK K
                              (with_reducible refine R.wpStill_plain rfl (fun K hK => ?_)); go_simp; with_reducible refine hK _ ?_; clear hK K
                              (with_reducible refine R.wpStill_plain rfl (fun K hK => ?_)); go_simp; with_reducible refine hK _ ?_; clear hK K
                              (with_reducible refine R.wpStill_plain rfl (fun K hK => ?_)); go_simp; with_reducible refine hK _ ?_; clear hK K
                              (with_reducible refine R.wpStill_plain rfl (fun K hK => ?_)); go_simp; with_reducible refine hK _ ?_; clear hK K
                              (with_reducible refine R.wpStill_plain rfl (fun K hK => ?_)); go_simp; with_reducible refine hK _ ?_; clear hK K
                              exact wpStill_nil rfl
                            case hC =>
                              simp only [R.chainOf, List.getElem?_toArray, List.getElem?_cons_zero, List.getElem?_cons_succ, Nat.reduceBNe, Bool.and_true, Bool.and_false, Bool.false_and]
                              refine R.wpSeq_same (fun K hK => ?_)
                              go_simp
                              refine (CW.out _).mono ?_
                              rintro e w2 ⟨rfl, hB2⟩
                              have hK2 : R.Keeps [] wz w2 := ((R.Keeps.refl [] _).drew).trans (R.Keeps.of_below [] hB2) (fun k hk => by simp at hk)
                              refine hK _ _ hK2 ?_
                              clear hK K
                              have HK2 := Lib.hid hK2
                              clear hB2 hK2
                              refine R.wpSeq_same (fun K hK => ?_)
                              have hwr := HWR.out
                              go_simp
                              clear hwr
                              with_reducible refine hK _ _ HK2.out ?_
                              clear hK K
                              refine R.wpSeq_same (fun K hK => ?_)
                              go_simp
                              with_reducible refine hK _ _ HK2.out ?_
                              clear hK K
                              have hszz := HKz.out.size
                              have hltz : nb < wz.heap.size := by
                                have := HAz.out
                                rcases Nat.lt_or_ge nb wz.heap.size with h1 | h1
                                · exact h1
                                · rw [Array.getElem?_eq_none (by omega)] at this; cases this
                              have HA3 : Hid (w2.heap[nb]? = some (.cells (arr8 xs) 81 (0, 0))) := Lib.hid ((HK2.out.block _ hltz (by simp)).trans HAz.out)
                              have ff : w2.frozen? ⟨nb, m, none⟩ = false := arr_frozen HA3.out m
                              have cc : w2.cell? ⟨nb, m, none⟩ = some (.int .i64 cur) := by rw [← HCUR.out]; exact arr_cell HA3.out hm8
                              refine R.wpSeq_tail _ rfl ?_
                              simp only [List.map_cons, List.map_nil]
                              go_wp2_with fail
                              refine ⟨⟨c + 1, by go_num, by omega, ?_, ?_⟩, by simp [intOf]; omega⟩
                              · rw [HUV.out, HNEW.out]
                                exact Lib.hid (arr_set HA3.out HLEN.out hm8 (min cur (y + p)))
                              · exact Lib.hid ((HKz.out.trans HK2.out (fun k hk => by simp at hk)).setCell (fun h => by simp at h; omega) _)
                          · rw [if_neg hlty] at hnew
                            have HNEW := Lib.hid hnew
                            clear hnew
                            go_wp2_with fail
                            refine ⟨⟨c + 1, by go_num, by omega, ?_, HKz⟩, by simp [intOf]; omega⟩
                            rw [HUV.out, HNEW.out]
                            exact HAz
                        · obtain rfl : c = 2 := by omega
                          go_wp2_with fail
                          refine ⟨⟨u + 1, by go_num, by omega, HAz, HKz⟩, by simp [intOf]; omega⟩
                    · obtain rfl : u = 8 := by omega
                      have hAq : wq.heap[nb]? = some (.cells (arr8 (nextF g h now 16)) 81 (0, 0)) := HAq.out
                      have HNX : Hid ((freeF g h (k + 1)).2 = nextF g h now 16) := Lib.hid (by rw [HN.out])
                      have HBX : Hid ((freeF g h (k + 1)).1 = bestF g h now best 8) := Lib.hid (by rw [HN.out])
                      obtain ⟨nx, hnx⟩ : ∃ nx, nextF g h now 16 = nx := ⟨_, rfl⟩
                      rw [hnx] at hAq HNX
                      clear hnx HAq
                      have z0 : wq.cell? ⟨nb, 0, none⟩ = some (.int .i64 (nx.getD 0 0)) := arr_cell hAq (by omega)
                      have z1 : wq.cell? ⟨nb, 1, none⟩ = some (.int .i64 (nx.getD 1 0)) := arr_cell hAq (by omega)
                      have z2 : wq.cell? ⟨nb, 2, none⟩ = some (.int .i64 (nx.getD 2 0)) := arr_cell hAq (by omega)
                      have z3 : wq.cell? ⟨nb, 3, none⟩ = some (.int .i64 (nx.getD 3 0)) := arr_cell hAq (by omega)
                      have z4 : wq.cell? ⟨nb, 4, none⟩ = some (.int .i64 (nx.getD 4 0)) := arr_cell hAq (by omega)
                      have z5 : wq.cell? ⟨nb, 5, none⟩ = some (.int .i64 (nx.getD 5 0)) := arr_cell hAq (by omega)
                      have z6 : wq.cell? ⟨nb, 6, none⟩ = some (.int .i64 (nx.getD 6 0)) := arr_cell hAq (by omega)
                      have z7 : wq.cell? ⟨nb, 7, none⟩ = some (.int .i64 (nx.getD 7 0)) := arr_cell hAq (by omega)
                      have hAo : wq.heap[B]? = some (.cells (arr8 now) 81 (0, 0)) := (HKq.out.block _ (by omega) (by simp)).trans HA.out
                      have HAo := Lib.hid hAo
                      have o0 : wq.cell? ⟨B, 0, none⟩ = some (.int .i64 (now.getD 0 0)) := arr_cell hAo (by omega)
                      have o1 : wq.cell? ⟨B, 1, none⟩ = some (.int .i64 (now.getD 1 0)) := arr_cell hAo (by omega)
                      have o2 : wq.cell? ⟨B, 2, none⟩ = some (.int .i64 (now.getD 2 0)) := arr_cell hAo (by omega)
                      have o3 : wq.cell? ⟨B, 3, none⟩ = some (.int .i64 (now.getD 3 0)) := arr_cell hAo (by omega)
                      have o4 : wq.cell? ⟨B, 4, none⟩ = some (.int .i64 (now.getD 4 0)) := arr_cell hAo (by omega)
                      have o5 : wq.cell? ⟨B, 5, none⟩ = some (.int .i64 (now.getD 5 0)) := arr_cell hAo (by omega)
                      have o6 : wq.cell? ⟨B, 6, none⟩ = some (.int .i64 (now.getD 6 0)) := arr_cell hAo (by omega)
                      have o7 : wq.cell? ⟨B, 7, none⟩ = some (.int .i64 (now.getD 7 0)) := arr_cell hAo (by omega)
                      have f0 : wq.frozen? ⟨B, 0, none⟩ = false := arr_frozen hAo 0
                      have f1 : wq.frozen? ⟨B, 1, none⟩ = false := arr_frozen hAo 1
                      have f2 : wq.frozen? ⟨B, 2, none⟩ = false := arr_frozen hAo 2
                      have f3 : wq.frozen? ⟨B, 3, none⟩ = false := arr_frozen hAo 3
                      have f4 : wq.frozen? ⟨B, 4, none⟩ = false := arr_frozen hAo 4
                      have f5 : wq.frozen? ⟨B, 5, none⟩ = false := arr_frozen hAo 5
                      have f6 : wq.frozen? ⟨B, 6, none⟩ = false := arr_frozen hAo 6
                      have f7 : wq.frozen? ⟨B, 7, none⟩ = false := arr_frozen hAo 7
                      clear hAq hAo
                      go_wp2_with fail
                      clear z0 z1 z2 z3 z4 z5 z6 z7
                      refine ⟨⟨k + 1, by go_num, by rw [HBX.out], by omega, ?_, ?_⟩, by simp [intOf]; omega⟩
                      · rw [HNX.out]
                        exact Lib.hid (arr_over HAo.out nx)
                      · exact Lib.hid ((((((((((HK.out.trans HKq.out (fun k hk => by simp at hk)).setCell (fun _ => by simp) _).setCell (fun _ => by simp) _).setCell (fun _ => by simp) _).setCell (fun _ => by simp) _).setCell (fun _ => by simp) _).setCell (fun _ => by simp) _).setCell (fun _ => by simp) _).setCell (fun _ => by simp) _))
        · obtain rfl : k = 64 := by omega
          go_wp2_with fail
          exact bodyPost_ret (v := .int .i64 best) (by simp [results, Try.results37, go_sem]) rfl ⟨by rw [HBE.out], HB1.out.trans (HK.out.to_below (by omega) (fun k hk => by simp at hk; omega))⟩
end Go.Proofs.Ytcpojohpmcnnhaa.A

set_option linter.unusedVariables false
set_option linter.unusedSimpArgs false
namespace Go.Proofs.Ytcpojohpmcnnhaa.PA
open Go.RowKit Go.Proofs.YtcpojohpmcnnhaaW.PrintWords Go.Proofs.YtcpojohpmcnnhaaW.PrintLast Go.Proofs.YtcpojohpmcnnhaaW.PrintMore
def turndownref06_Free.f (a0 : Int) (a1 : Int) : Option (Int) := if tapsOk a0 a1 then some (A.freeF a0.toNat a1.toNat 64).1 else none
theorem turndownref06_Free.calls (a0 : Int) (a1 : Int) (r : Int) (w : World) (h : turndownref06_Free.f a0 a1 = some r) :
    Calls Try.prog 37 #[.int .i64 a0, .int .i64 a1] w fun e w' => e = .returned (.int .i64 r) ∧ Below w.heap.size w w' := by
  unfold turndownref06_Free.f at h
  split at h
  · rename_i hc
    obtain ⟨h0, h1, h2, h3⟩ := hc
    obtain rfl := Option.some.inj h
    obtain ⟨g, rfl⟩ := Int.eq_ofNat_of_zero_le h0
    obtain ⟨q, rfl⟩ := Int.eq_ofNat_of_zero_le h2
    exact A.refFree_c g q w (by omega) (by omega)
  · cases h
end Go.Proofs.Ytcpojohpmcnnhaa.PA

set_option linter.unusedVariables false
set_option linter.unusedSimpArgs false
namespace Go.Proofs.Ytcpojohpmcnnhaa.L
open Go.RowKit Go.Proofs.YtcpojohpmcnnhaaW.PrintWords Go.Proofs.YtcpojohpmcnnhaaW.PrintLast Go.Proofs.YtcpojohpmcnnhaaW.PrintMore
open Go.Proofs.Ytcpojohpmcnnhaa.PA Go.Proofs.Ytcpojohpmcnnhaa.A
def upF (x : Int) : Int := if x ≥ 1048576 then 1152921504606846976 else x
def PF (M x : Int) : Prop := x = 1048576 ∨ (0 ≤ x ∧ x ≤ M)
theorem upF_getD (l : List Int) (j : Nat) : (l.map upF).getD j 0 = upF (l.getD j 0) := by
  rw [List.getD_eq_getElem?_getD, List.getD_eq_getElem?_getD, List.getElem?_map]
  cases l[j]? <;> rfl
theorem set_self {l : List Int} {m : Nat} (h : m < l.length) : l.set m (l.getD m 0) = l := by
  refine List.ext_getElem? fun i => ?_
  rw [List.getElem?_set]
  split
  · rename_i e
    subst e
    rw [List.getD_eq_getElem?_getD, List.getElem?_eq_getElem h]; rfl
  · rfl
theorem upF_min {M cur y p : Int} (hM : M ≤ 1000) (hc : PF M cur) (hy : 0 ≤ y ∧ y ≤ 1000) (hp : 0 ≤ p ∧ p ≤ 10) : min (upF cur) (y + p) = upF (min cur (y + p)) := by
  unfold upF
  unfold PF at hc
  split <;> split <;> omega
theorem PF_min {M N cur y : Int} (hc : PF N cur) (hM : M ≤ N) (hy : 0 ≤ y ∧ y ≤ N) : PF N (min cur y) := by
  unfold PF at *
  omega
theorem upF_lt {M y : Int} (hM : M ≤ 1000) (h : PF M y) : (upF y < 1152921504606846976 ∧ upF y = y ∧ 0 ≤ y ∧ y ≤ M) ∨ (¬ upF y < 1152921504606846976 ∧ upF y ≥ 1152921504606846976 ∧ y = 1048576) := by
  unfold PF at h
  unfold upF
  split <;> omega
theorem next_map {g h : Nat} {now : List Int} {M : Int} (hM0 : 0 ≤ M) (hM : M ≤ 900) (hn : ∀ j, PF M (now.getD j 0)) : ∀ q, nextF g h (now.map upF) q = (nextC g h now q).map upF ∧ ∀ j, j < 8 → PF (M + 2) ((nextC g h now q).getD j 0)
  | 0 => by
    refine ⟨rfl, fun j hj => ?_⟩
    left
    match j, hj with
    | 0, _ | 1, _ | 2, _ | 3, _ | 4, _ | 5, _ | 6, _ | 7, _ => rfl
    | j + 8, h => omega
  | q + 1 => by
    obtain ⟨ih, ihb⟩ := next_map (g := g) (h := h) hM0 hM hn q
    have hl := nextC_len g h now q
    rw [nextF, nextC_succ, ih, upF_getD, upF_getD]
    obtain ⟨xs, hxs⟩ : ∃ xs, nextC g h now q = xs := ⟨_, rfl⟩
    rw [hxs] at ihb hl ⊢
    have hm : q % 8 < 8 := by omega
    obtain ⟨m, hmm⟩ : ∃ m, q % 8 = m := ⟨_, rfl⟩
    rw [hmm] at hm ⊢
    have hc := ihb m hm
    have hw := wtI_bd g h q
    have hy := hn (q / 2)
    obtain ⟨y, hyy⟩ : ∃ y, now.getD (q / 2) 0 = y := ⟨_, rfl⟩
    obtain ⟨p, hp⟩ : ∃ p, wtI g h q = p := ⟨_, rfl⟩
    rw [hyy] at hy ⊢
    rw [hp] at hw ⊢
    rcases upF_lt (by omega) hy with ⟨h1, h2, h3, h4⟩ | ⟨h1, h2, h3⟩
    · rw [if_pos h1, h2, upF_min (M := M + 2) (by omega) hc (by omega) (by omega), ← List.map_set]
      refine ⟨rfl, fun j hj => ?_⟩
      rw [List.getD_eq_getElem?_getD, List.getElem?_set]
      split
      · rw [if_pos (by omega)]
        exact PF_min hc (Int.le_refl _) (by omega)
      · rw [← List.getD_eq_getElem?_getD]; exact ihb j hj
    · have hcu : xs.getD m 0 ≤ 1048576 := by unfold PF at hc; omega
      have e : min (xs.getD m 0) (y + p) = xs.getD m 0 := by omega
      rw [if_neg h1, e, set_self (by omega)]
      exact ⟨rfl, ihb⟩
theorem tail_same {g h s : Nat} (hs : s < 8) : tailR g h s = tailI g h s := by
  unfold tailR tailI
  rw [show 2 * s % 16 = 2 * s by omega, show 2 * (2 * s) % 16 = 2 * (2 * s % 8) by omega, show 2 * (2 * (2 * s % 8)) % 16 = 2 * (2 * (2 * s % 8) % 8) by omega]
theorem best_map {g h : Nat} {now : List Int} {M best : Int} (hM0 : 0 ≤ M) (hM : M ≤ 900) (hn : ∀ j, PF M (now.getD j 0)) (hb : PF (M + 6) best) : ∀ t, t ≤ 8 → bestF g h (now.map upF) (upF best) t = upF (bestC g h now best t) ∧ PF (M + 6) (bestC g h now best t)
  | 0, _ => ⟨rfl, hb⟩
  | t + 1, ht => by
    obtain ⟨ih, ihb⟩ := best_map (g := g) (h := h) hM0 hM hn hb t (by omega)
    have e : bestC g h now best (t + 1) = min (bestC g h now best t) (now.getD t 0 + tailI g h t) := rfl
    rw [bestF, e, ih, upF_getD, tail_same (by omega)]
    have hw := tailI_bd g h t
    have hy := hn t
    obtain ⟨y, hyy⟩ : ∃ y, now.getD t 0 = y := ⟨_, rfl⟩
    obtain ⟨p, hp⟩ : ∃ p, tailI g h t = p := ⟨_, rfl⟩
    obtain ⟨b, hbb⟩ : ∃ b, bestC g h now best t = b := ⟨_, rfl⟩
    rw [hyy] at hy ⊢
    rw [hp] at hw ⊢
    rw [hbb] at ihb ⊢
    rcases upF_lt (by omega) hy with ⟨h1, h2, h3, h4⟩ | ⟨h1, h2, h3⟩
    · rw [if_neg (by omega), h2, upF_min (M := M + 6) (by omega) ihb (by omega) (by omega)]
      exact ⟨rfl, PF_min ihb (Int.le_refl _) (by omega)⟩
    · have hcu : b ≤ 1048576 := by unfold PF at ihb; omega
      rw [if_pos h2, show min b (y + p) = b by omega]
      exact ⟨rfl, ihb⟩
theorem free_map (g h : Nat) : ∀ k, k ≤ 64 → ((freeF g h k).2 = (freeS g h k).2.map upF ∧ ∀ j, PF (2 * (k : Int) + 2) ((freeS g h k).2.getD j 0)) ∧ (freeF g h k).1 = upF (freeS g h k).1 ∧ PF (2 * (k : Int) + 8) (freeS g h k).1
  | 0, _ => by
    have hw := wtI_bd g h 1
    refine ⟨⟨?_, fun j => ?_⟩, ?_, ?_⟩
    · rw [freeF, freeS]
      show farR.set 1 (wtI g h 1) = (far8.set 1 (wtI g h 1)).map upF
      rw [List.map_set]
      have : upF (wtI g h 1) = wtI g h 1 := by unfold upF; rw [if_neg (by omega)]
      rw [this]; rfl
    · rw [freeS]
      show PF _ ((far8.set 1 (wtI g h 1)).getD j 0)
      unfold PF far8
      match j with
      | 0 | 2 | 3 | 4 | 5 | 6 | 7 => left; rfl
      | 1 => right; simp; omega
      | j + 8 => right; simp
    · rw [freeF, freeS]; rfl
    · rw [freeS]; left; rfl
  | k + 1, hk => by
    obtain ⟨⟨h1, h2⟩, h3, h4⟩ := free_map g h k (by omega)
    have hl := freeS_len g h (k + 1)
    have hnx := next_map (g := g) (h := h) (now := (freeS g h k).2) (M := 2 * (k : Int) + 2) (by omega) (by omega) h2 16
    have hbs := best_map (g := g) (h := h) (now := (freeS g h k).2) (M := 2 * (k : Int) + 2) (best := (freeS g h k).1) (by omega) (by omega) h2 (by unfold PF at h4 ⊢; omega) 8 (by omega)
    rw [← h1] at hnx hbs
    rw [← h3] at hbs
    rw [freeF, freeS2, freeS1]
    rw [freeS1] at hl
    refine ⟨⟨hnx.1, fun j => ?_⟩, hbs.1, ?_⟩
    · by_cases hj : j < 8
      · have := hnx.2 j hj
        unfold PF at this ⊢
        omega
      · right
        rw [List.getD_eq_getElem?_getD, List.getElem?_eq_none (by omega)]
        simp; omega
    · have := hbs.2
      unfold PF at this ⊢
      omega
theorem bestC_le (g h : Nat) (now : List Int) (best : Int) : ∀ t, bestC g h now best t ≤ best ∧ ∀ j, j < t → bestC g h now best t ≤ now.getD j 0 + tailI g h j
  | 0 => ⟨Int.le_refl _, fun j hj => by omega⟩
  | t + 1 => by
    obtain ⟨h1, h2⟩ := bestC_le g h now best t
    have e : bestC g h now best (t + 1) = min (bestC g h now best t) (now.getD t 0 + tailI g h t) := rfl
    rw [e]
    refine ⟨by omega, fun j hj => ?_⟩
    by_cases hjt : j = t
    · subst hjt; omega
    · have := h2 j (by omega); omega
theorem free_le (g h : Nat) : ∀ k, (freeS g h (k + 1)).1 ≤ 8
  | 0 => by
    rw [freeS2]
    have h1 := (bestC_le g h (freeS g h 0).2 (freeS g h 0).1 8).2 1 (by omega)
    have h2 := wtI_bd g h 1
    have h3 := tailI_bd g h 1
    have h4 : (freeS g h 0).2.getD 1 0 = wtI g h 1 := by rw [freeS0]; rfl
    omega
  | k + 1 => by
    rw [freeS2]
    have h1 := (bestC_le g h (freeS g h (k + 1)).2 (freeS g h (k + 1)).1 8).1
    have := free_le g h k
    omega
theorem free_same (g h : Nat) : (freeF g h 64).1 = (freeS g h 64).1 := by
  rw [(free_map g h 64 (by omega)).2.1]
  have : (freeS g h 64).1 ≤ 8 := free_le g h 63
  unfold upF
  rw [if_neg (by omega)]
theorem free_fs (x y : Int) : turndownref06_Free.f x y = code_taps_free.f x y := by
  unfold turndownref06_Free.f code_taps_free.f
  rw [free_same]
end Go.Proofs.Ytcpojohpmcnnhaa.L
