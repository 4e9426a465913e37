/- For all lengths and strings the statement CodeDecodes holds: Go's function returns true and changes nothing that existed. -/
import Derived.SizedLaws
import Derived.ChangeSlices
import Derived.Test.YtcpojohpmcnnhaaRows
import Derived.WalkKit
import Derived.ProofKit
import Derived.OpenShut
import Derived.ShutString
import Derived.ChangeOld
import Derived.Below
import Derived.Test.YtcpojohpmcnnhaaZw10
set_option linter.unusedSimpArgs false
set_option linter.unusedVariables false

set_option linter.unusedVariables false
set_option linter.unusedSimpArgs false
namespace Go.Proofs.Ytcpojohpmcnnhaa.A
open Go.RowKit Go.Proofs.YtcpojohpmcnnhaaW.PrintWords Go.Proofs.YtcpojohpmcnnhaaW.PrintLast Go.Proofs.YtcpojohpmcnnhaaW.PrintMore
open Go.Proofs.Ytcpojohpmcnnhaa.PA
attribute [local go_sem] max2_int min2_int max_two min_two
theorem cut_take (A : Option Addr) (c : Nat) (l : List Int) (w : World) (hr : Kd.C (Kd.int .i64) w A l.length l) (hcc : l.length ≤ c) (j : Nat) (hj : j ≤ l.length) : Kd.C (Kd.int .i64) w A j (l.take j) := by
  obtain ⟨i0, hi0, _, hsz, _⟩ := info_parts info3
  obtain ⟨hcut, hA, hC⟩ := print_take_of (P := Try.prog) (Value.int .i64) 0 22 3 .i64 Try.underlying22 hi0 hsz A c l (j : Int) (by omega) (by omega) hcc
  have hA' := hA _ (Kd.reads_of_C hr)
  rw [Int.toNat_natCast, show (l.take j).length = j by rw [List.length_take]; omega] at hA'
  exact Kd.C_of_reads (h1 := fun _ => rfl) hA'
set_option maxRecDepth 100000 in
set_option maxHeartbeats 800000 in
theorem list_c (A : Option Addr) (c : Nat) (l : List Int) (w : World) (hr : Kd.C (Kd.int .i64) w A l.length l) (hcc : l.length ≤ c) :
    Calls Try.prog 19 #[.slice A l.length c] w fun e w' => ∃ v, e = .returned v ∧ Kd.R (Kd.int .i64) 3 w' w.heap.size (fun _ => True) v (l.take 70) ∧ Below w.heap.size w w' := by
  have hl : l.length ≤ 9223372036854775807 := hr.2.1
  by_cases h70 : 70 < l.length
  · have HR := Lib.hid (cut_take A c l w hr hcc 70 (by omega))
    have hlt : (70 : Int) < (l.length : Int) := by omega
    have hd : decide ((70 : Int) < (l.length : Int)) = true := decide_eq_true hlt
    have hle : (l.take 70).length ≤ 70 := by rw [List.length_take]; omega
    have hc70 : (70 : Int) ≤ (c : Int) := by omega
    clear hr
    go_enter Try.func19, Try.ntmps19
    go_wp2_with (at_builtin; refine Kd.R_append_rows (Kd.int .i64) (w0 := w) w.heap.size rfl (.tmp 4) (.tmp 9) 22 3 (.int .i64 0) 8 rfl Try.underlying22 info3 rfl (by decide) (by omega) (.slice none 0 0) ([] : List Int) (l.take 70) A 70 c (fun _ => True) (fun _ => False) rfl rfl ?aO ?aR (fun _ _ h => h) (fun _ h => h.elim) (fun _ _ => trivial) ?aB ?aS ?aL ?_)
    case aO => exact Kd.R_nil _ _ _ _ _
    case aR => exact HR.out
    case aB => exact Below.refl _ _
    case aS => omega
    case aL => simp only [List.length_nil]; omega
    intro v1 w1 ho hb hg hat
    have HO := Lib.hid ho
    clear ho
    go_wp2_with fail
    go_ret
    exact ⟨_, rfl, HO.out, hb⟩
  · have ht : l.take 70 = l := List.take_of_length_le (by omega)
    rw [ht]
    have HR := Lib.hid hr
    have hlt : ¬ (70 : Int) < (l.length : Int) := by omega
    have hd : decide ((70 : Int) < (l.length : Int)) = false := decide_eq_false hlt
    have hc0 : (0 : Int) ≤ (l.length : Int) := by omega
    have hc1 : (l.length : Int) ≤ (c : Int) := by omega
    clear hr ht
    go_enter Try.func19, Try.ntmps19
    go_wp2_with (at_builtin; refine Kd.R_append_rows (Kd.int .i64) (w0 := w) w.heap.size rfl (.tmp 4) (.tmp 9) 22 3 (.int .i64 0) 8 rfl Try.underlying22 info3 rfl (by decide) (by omega) (.slice none 0 0) ([] : List Int) l A l.length c (fun _ => True) (fun _ => False) rfl rfl ?bO ?bR (fun _ _ h => h) (fun _ h => h.elim) (fun _ _ => trivial) ?bB ?bS ?bL ?_)
    case bO => exact Kd.R_nil _ _ _ _ _
    case bR => exact HR.out
    case bB => exact Below.refl _ _
    case bL => first | omega | (simp; done) | (simp; omega)
    intro v1 w1 ho hb hg hat
    have HO := Lib.hid ho
    clear ho
    go_wp2_with fail
    go_ret
    exact ⟨_, rfl, HO.out, hb⟩
end Go.Proofs.Ytcpojohpmcnnhaa.A
namespace Go.Proofs.Ytcpojohpmcnnhaa.PA
open Go.RowKit Go.Proofs.YtcpojohpmcnnhaaW.PrintWords Go.Proofs.YtcpojohpmcnnhaaW.PrintLast Go.Proofs.YtcpojohpmcnnhaaW.PrintMore
def turndownlaw06_list.f (l0 : List Int) : Option (List Int) := some (l0.take 70)
theorem turndownlaw06_list.calls (A0 : Option Addr) (c0 : Nat) (l0 : List Int) (r : List Int) (w : World) (hr0 : Kd.C (Kd.int .i64) w A0 l0.length l0) (hc0 : l0.length ≤ c0) (h : turndownlaw06_list.f l0 = some r) :
    Calls Try.prog 19 #[.slice A0 l0.length c0] w fun e w' => ∃ v0_ : Value, e = .returned (v0_) ∧ Kd.R (Kd.int .i64) 3 w' w.heap.size (fun _ => True) v0_ r ∧ Below w.heap.size w w' := by
  obtain rfl := Option.some.inj h
  exact A.list_c A0 c0 l0 w hr0 hc0
end Go.Proofs.Ytcpojohpmcnnhaa.PA

namespace Go.Proofs.Ytcpojohpmcnnhaa.PA
open Go.RowKit Go.Proofs.YtcpojohpmcnnhaaW.PrintWords Go.Proofs.YtcpojohpmcnnhaaW.PrintLast Go.Proofs.YtcpojohpmcnnhaaW.PrintMore
attribute [local go_sem] max2_int min2_int max_two min_two max_three min_three max_four min_four
set_option linter.unusedVariables false
set_option linter.unusedSimpArgs false
mutual
def turndownlaw06_CodeDecodes.j0 : Nat → ByteArray → List Int → Int → Option (Bool)
 | 0, _, _, _ => none
 | k + 1, x1, x5, x6 => if 0 ≤ x6 then (if x6 ≤ (x1.size : Int) then ((code_Decode.f x5 (x1.extract 0 (x6 : Int).toNat)).bind fun bt567 => ((turndownref06_Lengths.f k x5).bind fun t571 => (if t571 = true then (if ((x1.extract 0 (x6 : Int).toNat).size : Int) > 65536 then (turndownlaw06_CodeDecodes.j1 k x5 (x1.extract 0 (x6 : Int).toNat) bt567.1 bt567.2 true) else ((turndownref06_Bits.f k (x1.extract 0 (x6 : Int).toNat)).bind fun t572 => (turndownlaw06_CodeDecodes.j1 k x5 (x1.extract 0 (x6 : Int).toNat) bt567.1 bt567.2 (!t572)))) else (turndownlaw06_CodeDecodes.j1 k x5 (x1.extract 0 (x6 : Int).toNat) bt567.1 bt567.2 true)))) else (none)) else (none)
def turndownlaw06_CodeDecodes.j1 : Nat → List Int → ByteArray → List Int → Int → Bool → Option (Bool)
 | 0, _, _, _, _, _ => none
 | k + 1, x5, x7, x8, x9, x41 => if x41 = true then (if (x8.length : Int) = 0 then (if x9 = 2 then ((turndownlaw06_awake.f k).bind fun t573 => (some t573)) else (some false)) else (some false)) else ((turndownref06_Possible.f k x5).bind fun t574 => (if t574 = true then ((turndownref06_Decode.f k x5 x7).bind fun bt576 => (if bt576.2 = true then ((turndownlaw06_ints.f k x8 bt576.1).bind fun t580 => (if t580 = true then (if x9 = 0 then ((turndownlaw06_awake.f k).bind fun t581 => (some t581)) else (some false)) else (some false))) else (if (x8.length : Int) = 0 then (if x9 = 60 then ((turndownlaw06_awake.f k).bind fun t582 => (some t582)) else (some false)) else (some false)))) else (if (x8.length : Int) = 0 then (if x9 = 60 then ((turndownlaw06_awake.f k).bind fun t575 => (some t575)) else (some false)) else (some false))))
end
def turndownlaw06_CodeDecodes.f (k : Nat) (l0 : List Int) (a1 : ByteArray) : Option (Bool) := (turndownlaw06_list.f l0).bind fun t564 => (if (a1.size : Int) > 65536 then (turndownlaw06_CodeDecodes.j0 k a1 t564 65537) else (turndownlaw06_CodeDecodes.j0 k a1 t564 (mn (a1.size : Int) 2000)))
set_option maxHeartbeats 8000000 in
set_option maxRecDepth 100000 in
theorem turndownlaw06_CodeDecodes.calls (k : Nat) (A0 : Option Addr) (c0 : Nat) (l0 : List Int) (a1 : ByteArray) (r : Bool) (w : World) (hr0 : Kd.C (Kd.int .i64) w A0 l0.length l0) (hc0 : l0.length ≤ c0) (h : turndownlaw06_CodeDecodes.f k l0 a1 = some r) :
  Calls Try.prog 17 #[.slice A0 l0.length c0, .string a1] w fun e w' => e = .returned (.bool r) ∧ Below w.heap.size w w' := by
 have HR0 := Aside0.mk hr0
 have HC0 := Aside0.mk hc0
 clear hr0 hc0
 have HB := Aside0.mk (Below.refl w.heap.size w)
 have H : ((turndownlaw06_list.f l0).bind fun t564 => (if (a1.size : Int) > 65536 then (turndownlaw06_CodeDecodes.j0 k a1 t564 65537) else (turndownlaw06_CodeDecodes.j0 k a1 t564 (mn (a1.size : Int) 2000)))) = some r := h
 clear h
 replace H := Option.bind_eq_some_iff.mp H
 obtain ⟨t564, A30, H⟩ := H
 replace H : (if (a1.size : Int) > 65536 then (turndownlaw06_CodeDecodes.j0 k a1 t564 65537) else (turndownlaw06_CodeDecodes.j0 k a1 t564 (mn (a1.size : Int) 2000))) = some r := H
 have A3 := Aside0.mk A30
 clear A30
 obtain ⟨ji4, hji4⟩ : ∃ j_ : Int, (mn (a1.size : Int) 2000) = j_ := ⟨_, rfl⟩
 replace H : (if (a1.size : Int) > 65536 then (turndownlaw06_CodeDecodes.j0 k a1 t564 65537) else (turndownlaw06_CodeDecodes.j0 k a1 t564 ji4)) = some r := by first | (rw [hji4] at H; exact H) | (simp only [hji4] at H ⊢; exact H)
 (try rw [hji4] at A3)
 (try (have hji4h : ji4 ≤ 2000 := by (rw [← hji4]; unfold mn; (repeat' split) <;> omega)))
 (try (have hji4g : ji4 ≤ 64 := by omega))
 (try (have hji4l : 0 ≤ ji4 := by (rw [← hji4]; unfold mn; (repeat' split) <;> omega)))
 (try (have hji4m : 0 ≤ ji4 := by omega))
 have hji4_ : (if 2000 < (a1.size : Int) then 2000 else (a1.size : Int)) = ji4 := hji4
 have HC5 := Aside0.mk H
 clear H
 go_enter Try.func17, Try.ntmps17
 go_upto_if 19 with (first | ((with_reducible refine gate_callee (f := 19) rfl ?_); refine goesL_ (some 13) rfl rfl Try.func19 (by kernel_rfl) rfl #[.slice A0 l0.length c0] rfl (by (try simp only [List.map_toArray, List.map_cons, List.map_nil]); first | done | rfl | (simp only [List.length_drop, List.length_take]; rfl)) ?_; (with_reducible refine (turndownlaw06_list.calls _ _ l0 t564 _ ?side1 ?side2 A3.out).mono ?_); (case side1 => repeat (first | exact HR0.out | (with_reducible refine Kd.C_alloc ?_ _) | (with_reducible refine Kd.C_drewN ?_ _) | (with_reducible refine Kd.C_drew ?_))); (case side2 => exact HC0.out); rintro e w6 ⟨v565, rfl, ho0, hb⟩; refine ⟨_, rfl, ?_⟩; have n0_ := Aside0.mk (Kd.R_lower ho0 (below_size (by repeat (first | (with_reducible first | exact HB.out | apply below_alloc | apply pw_below_drewN | apply below_drew1) | exact HB.out)))); have n1_ := Aside0.mk (below_step (by repeat (first | (with_reducible first | exact HB.out | apply below_alloc | apply pw_below_drewN | apply below_drew1) | exact HB.out)) hb); clear HB; have HO566 := n0_; have HB := n1_; clear n0_ n1_; (try clear hb); (try clear hb2); (try clear hk); (try clear hi); (try clear ho0)))
 (try simp only [Act.put, List.setIfInBounds_toArray, List.set_cons_zero, List.set_cons_succ])
 go_cut [6] (fun v6 wc => ∃ (kq : Nat) (x6_4 : Int), v6 = .int .i64 x6_4 ∧ Aside0 (turndownlaw06_CodeDecodes.j0 kq a1 t564 x6_4 = some r) ∧ Aside0 (kq ≤ k) ∧ Aside0 (Kd.R (Kd.int .i64) 3 wc w.heap.size (fun _ => True) v565 t564) ∧ Aside0 (Below w.heap.size w wc))
 case first =>
  have H := HC5.out
  clear HC5
  by_cases c7 : (a1.size : Int) > 65536
  ·
   rw [if_pos c7] at H
   have c7b0 : decide (65536 < (a1.size : Int)) = true := decide_eq_true c7
   have c7b1 : decide (65536 < a1.size) = true := decide_eq_true (by omega)
   clear c7
   (first | rw [c7b0] | (simp only [i64_w, i32_w]; rw [c7b0]) | skip)
   have H' := Aside0.mk H
   clear H
   go_wp2
   go_meet
   case rel => exact ⟨_, (65537), (by first | rfl | (simp; done) | (simp [*]; done)), H', ⟨by first | omega | exact Nat.le_refl _⟩, ⟨by (with_reducible repeat (first | apply Kd.R_alloc | apply Kd.R_drewN | apply Kd.R_drew)); exact HO566.out⟩, ⟨by repeat (first | (with_reducible first | exact HB.out | apply below_alloc | apply pw_below_drewN | apply below_drew1) | exact HB.out)⟩⟩
  ·
   rw [if_neg c7] at H
   have c7b0 : decide (65536 < (a1.size : Int)) = false := decide_eq_false c7
   have c7b1 : decide (65536 < a1.size) = false := decide_eq_false (by omega)
   clear c7
   (first | rw [c7b0] | (simp only [i64_w, i32_w]; rw [c7b0]) | skip)
   have H' := Aside0.mk H
   clear H
   go_wp2
   go_meet
   case rel => exact ⟨_, (ji4), (by first | rfl | (simp; done) | (simp only [← hji4] <;> (first | rfl | simp)) | (simp [*]; done)), H', ⟨by first | omega | exact Nat.le_refl _⟩, ⟨by (with_reducible repeat (first | apply Kd.R_alloc | apply Kd.R_drewN | apply Kd.R_drew)); exact HO566.out⟩, ⟨by repeat (first | (with_reducible first | exact HB.out | apply below_alloc | apply pw_below_drewN | apply below_drew1) | exact HB.out)⟩⟩
 case rest =>
  clear HC5
  try clear c1
  try clear p2
  try clear c7
  try clear c7b0
  try clear c7b1
  obtain ⟨kq, x6_4, rfl, HA, HJ4, HO_5, HB⟩ := hcut
  cases kq with
  | zero => exact absurd HA.out (by simp [turndownlaw06_CodeDecodes.j0])
  | succ kj4 =>
   have H := HA.out
   clear HA
   simp only [turndownlaw06_CodeDecodes.j0] at H
   by_cases c8 : 0 ≤ x6_4
   ·
    rw [if_pos c8] at H
    have c8b0 := eq_true c8
    have c8b1 : decide (0 ≤ x6_4) = true := decide_eq_true c8
    clear c8
    by_cases c9 : x6_4 ≤ (a1.size : Int)
    ·
     rw [if_pos c9] at H
     have c9b0 := eq_true c9
     have c9b1 : decide (x6_4 ≤ (a1.size : Int)) = true := decide_eq_true c9
     clear c9
     replace H := Option.bind_eq_some_iff.mp H
     obtain ⟨⟨t567, t568⟩, A100, H⟩ := H
     replace H : ((turndownref06_Lengths.f kj4 t564).bind fun t571 => (if t571 = true then (if ((a1.extract 0 (x6_4 : Int).toNat).size : Int) > 65536 then (turndownlaw06_CodeDecodes.j1 kj4 t564 (a1.extract 0 (x6_4 : Int).toNat) t567 t568 true) else ((turndownref06_Bits.f kj4 (a1.extract 0 (x6_4 : Int).toNat)).bind fun t572 => (turndownlaw06_CodeDecodes.j1 kj4 t564 (a1.extract 0 (x6_4 : Int).toNat) t567 t568 (!t572)))) else (turndownlaw06_CodeDecodes.j1 kj4 t564 (a1.extract 0 (x6_4 : Int).toNat) t567 t568 true))) = some r := H
     have A10 := Aside0.mk A100
     clear A100
     have HC11 := Aside0.mk H
     clear H
     obtain ⟨Ao12, co12, eo12⟩ := Kd.R_slice HO_5.out
     subst eo12
     go_upto_region 7 with (first | ((with_reducible refine gate_callee (f := 47) rfl ?_); refine goesL_ (some 26) rfl rfl Try.func47 (by kernel_rfl) rfl #[.slice Ao12 t564.length co12, .string (a1.extract 0 (x6_4 : Int).toNat)] rfl (by (try simp only [List.map_toArray, List.map_cons, List.map_nil]); first | done | rfl | (simp only [List.length_drop, List.length_take]; rfl)) ?_; (with_reducible refine (code_Decode.calls _ _ t564 (a1.extract 0 (x6_4 : Int).toNat) t567 t568 _ ?side1 ?side2 A10.out).mono ?_); (case side1 => repeat (first | exact (Kd.R_reads' HO_5.out).2.2 | (with_reducible refine Kd.C_alloc ?_ _) | (with_reducible refine Kd.C_drewN ?_ _) | (with_reducible refine Kd.C_drew ?_))); (case side2 => exact (Kd.R_reads' HO_5.out).2.1); rintro e w13 ⟨v569, rfl, ho0, hb⟩; refine ⟨_, rfl, ?_⟩; have n0_ := Aside0.mk (Kd.R_elder' (by (with_reducible repeat (first | apply Kd.R_alloc | apply Kd.R_drewN | apply Kd.R_drew)); exact HO_5.out) (Kd.R_base ho0) hb); have n1_ := Aside0.mk (Kd.R_lower (Kd.R_new' ho0 (Kd.R_lt (by (with_reducible repeat (first | apply Kd.R_alloc | apply Kd.R_drewN | apply Kd.R_drew)); exact HO_5.out))) (below_size (by repeat (first | (with_reducible first | exact HB.out | apply below_alloc | apply pw_below_drewN | apply below_drew1) | exact HB.out)))); have n2_ := Aside0.mk (below_step (by repeat (first | (with_reducible first | exact HB.out | apply below_alloc | apply pw_below_drewN | apply below_drew1) | exact HB.out)) hb); clear HO_5; clear HB; have HO_5 := n0_; have HO570 := n1_; have HB := n2_; clear n0_ n1_ n2_; (try clear hb); (try clear hb2); (try clear hk); (try clear hi); (try clear ho0)))
     (try simp only [Act.put, List.setIfInBounds_toArray, List.set_cons_zero, List.set_cons_succ])
     obtain ⟨mx, hmx⟩ : ∃ m_ : ByteArray, a1.extract 0 (x6_4 : Int).toNat = m_ := ⟨_, rfl⟩
     try simp only [hmx]
     try simp only [hmx] at HC11
     go_cut [41] (fun v41 wc => ∃ (kq : Nat) (x41_10 : Bool), v41 = .bool x41_10 ∧ Aside0 (turndownlaw06_CodeDecodes.j1 kq t564 mx t567 t568 x41_10 = some r) ∧ Aside0 (kq ≤ kj4) ∧ Aside0 (Kd.R (Kd.int .i64) 3 wc w.heap.size (fun k_ => some k_ ≠ (v569 : Value).ownBlock) (.slice Ao12 t564.length co12) t564) ∧ Aside0 (Kd.R (Kd.int .i64) 3 wc w.heap.size (fun k_ => some k_ ≠ ((.slice Ao12 t564.length co12) : Value).ownBlock) v569 t567) ∧ Aside0 (Below w.heap.size w wc))
     case first =>
      have H := HC11.out
      clear HC11
      replace H := Option.bind_eq_some_iff.mp H
      obtain ⟨t571, A140, H⟩ := H
      replace H : (if t571 = true then (if (mx.size : Int) > 65536 then (turndownlaw06_CodeDecodes.j1 kj4 t564 mx t567 t568 true) else ((turndownref06_Bits.f kj4 mx).bind fun t572 => (turndownlaw06_CodeDecodes.j1 kj4 t564 mx t567 t568 (!t572)))) else (turndownlaw06_CodeDecodes.j1 kj4 t564 mx t567 t568 true)) = some r := H
      have A14 := Aside0.mk A140
      clear A140
      by_cases c15 : t571 = true
      ·
       subst c15
       have H1 : (if (mx.size : Int) > 65536 then (turndownlaw06_CodeDecodes.j1 kj4 t564 mx t567 t568 true) else ((turndownref06_Bits.f kj4 mx).bind fun t572 => (turndownlaw06_CodeDecodes.j1 kj4 t564 mx t567 t568 (!t572)))) = some r := by rw [if_pos rfl] at H; exact H
       clear H
       have H := H1
       clear H1
       by_cases c16 : (mx.size : Int) > 65536
       ·
        rw [if_pos c16] at H
        have c16b0 : decide (65536 < (mx.size : Int)) = true := decide_eq_true c16
        have c16b1 : decide (65536 < mx.size) = true := decide_eq_true (by omega)
        clear c16
        (first | rw [c16b0] | (simp only [i64_w, i32_w]; rw [c16b0]) | skip)
        have H' := Aside0.mk H
        clear H
        go_wp2_with (first | ((with_reducible refine gate_callee (f := 24) rfl ?_); refine goesL_ (some 30) rfl rfl Try.func24 (by kernel_rfl) rfl #[.slice Ao12 t564.length co12] rfl (by (try simp only [List.map_toArray, List.map_cons, List.map_nil]); first | done | rfl | (simp only [List.length_drop, List.length_take]; rfl)) ?_; (with_reducible refine (turndownref06_Lengths.calls kj4 _ _ t564 true _ ?side1 ?side2 A14.out).mono ?_); (case side1 => repeat (first | exact (Kd.R_reads' HO_5.out).2.2 | (with_reducible refine Kd.C_alloc ?_ _) | (with_reducible refine Kd.C_drewN ?_ _) | (with_reducible refine Kd.C_drew ?_))); (case side2 => exact (Kd.R_reads' HO_5.out).2.1); rintro e w' ⟨rfl, ⟨nd, rfl⟩⟩; refine ⟨_, rfl, ?_⟩))
        go_meet
        case rel => exact ⟨_, (true), (by first | rfl | (simp; done) | (simp [*]; done)), H', ⟨by have := HJ4.out; first | omega | exact Nat.le_refl _⟩, ⟨by (with_reducible repeat (first | apply Kd.R_alloc | apply Kd.R_drewN | apply Kd.R_drew)); exact Kd.R_mono HO_5.out (fun _ hk => hk.2)⟩, ⟨by (with_reducible repeat (first | apply Kd.R_alloc | apply Kd.R_drewN | apply Kd.R_drew)); exact Kd.R_mono HO570.out (fun _ hk => hk.2)⟩, ⟨by repeat (first | (with_reducible first | exact HB.out | apply below_alloc | apply pw_below_drewN | apply below_drew1) | exact HB.out)⟩⟩
       ·
        rw [if_neg c16] at H
        have c16b0 : decide (65536 < (mx.size : Int)) = false := decide_eq_false c16
        have c16b1 : decide (65536 < mx.size) = false := decide_eq_false (by omega)
        clear c16
        (first | rw [c16b0] | (simp only [i64_w, i32_w]; rw [c16b0]) | skip)
        replace H := Option.bind_eq_some_iff.mp H
        obtain ⟨t572, A170, H⟩ := H
        replace H : (turndownlaw06_CodeDecodes.j1 kj4 t564 mx t567 t568 (!t572)) = some r := H
        have A17 := Aside0.mk A170
        clear A170
        have H' := Aside0.mk H
        clear H
        go_wp2_with (first | ((with_reducible refine gate_callee (f := 24) rfl ?_); refine goesL_ (some 30) rfl rfl Try.func24 (by kernel_rfl) rfl #[.slice Ao12 t564.length co12] rfl (by (try simp only [List.map_toArray, List.map_cons, List.map_nil]); first | done | rfl | (simp only [List.length_drop, List.length_take]; rfl)) ?_; (with_reducible refine (turndownref06_Lengths.calls kj4 _ _ t564 true _ ?side1 ?side2 A14.out).mono ?_); (case side1 => repeat (first | exact (Kd.R_reads' HO_5.out).2.2 | (with_reducible refine Kd.C_alloc ?_ _) | (with_reducible refine Kd.C_drewN ?_ _) | (with_reducible refine Kd.C_drew ?_))); (case side2 => exact (Kd.R_reads' HO_5.out).2.1); rintro e w' ⟨rfl, ⟨nd, rfl⟩⟩; refine ⟨_, rfl, ?_⟩) | (go_at_call 31; (with_reducible refine (turndownref06_Bits.calls kj4 mx t572 _ A17.out).mono ?_); rintro e w' ⟨rfl, ⟨nd, rfl⟩⟩))
        go_meet
        case rel => exact ⟨_, (!t572), (by first | rfl | (simp; done) | (simp [*]; done)), H', ⟨by have := HJ4.out; first | omega | exact Nat.le_refl _⟩, ⟨by (with_reducible repeat (first | apply Kd.R_alloc | apply Kd.R_drewN | apply Kd.R_drew)); exact Kd.R_mono HO_5.out (fun _ hk => hk.2)⟩, ⟨by (with_reducible repeat (first | apply Kd.R_alloc | apply Kd.R_drewN | apply Kd.R_drew)); exact Kd.R_mono HO570.out (fun _ hk => hk.2)⟩, ⟨by repeat (first | (with_reducible first | exact HB.out | apply below_alloc | apply pw_below_drewN | apply below_drew1) | exact HB.out)⟩⟩
      ·
       replace c15 := Bool.eq_false_iff.mpr c15
       subst c15
       have H1 : (turndownlaw06_CodeDecodes.j1 kj4 t564 mx t567 t568 true) = some r := by rw [if_neg (show ¬ (false = true) by decide)] at H; exact H
       clear H
       have H := H1
       clear H1
       have H' := Aside0.mk H
       clear H
       go_wp2_with (first | ((with_reducible refine gate_callee (f := 24) rfl ?_); refine goesL_ (some 30) rfl rfl Try.func24 (by kernel_rfl) rfl #[.slice Ao12 t564.length co12] rfl (by (try simp only [List.map_toArray, List.map_cons, List.map_nil]); first | done | rfl | (simp only [List.length_drop, List.length_take]; rfl)) ?_; (with_reducible refine (turndownref06_Lengths.calls kj4 _ _ t564 false _ ?side1 ?side2 A14.out).mono ?_); (case side1 => repeat (first | exact (Kd.R_reads' HO_5.out).2.2 | (with_reducible refine Kd.C_alloc ?_ _) | (with_reducible refine Kd.C_drewN ?_ _) | (with_reducible refine Kd.C_drew ?_))); (case side2 => exact (Kd.R_reads' HO_5.out).2.1); rintro e w' ⟨rfl, ⟨nd, rfl⟩⟩; refine ⟨_, rfl, ?_⟩))
       go_meet
       case rel => exact ⟨_, (true), (by first | rfl | (simp; done) | (simp [*]; done)), H', ⟨by have := HJ4.out; first | omega | exact Nat.le_refl _⟩, ⟨by (with_reducible repeat (first | apply Kd.R_alloc | apply Kd.R_drewN | apply Kd.R_drew)); exact Kd.R_mono HO_5.out (fun _ hk => hk.2)⟩, ⟨by (with_reducible repeat (first | apply Kd.R_alloc | apply Kd.R_drewN | apply Kd.R_drew)); exact Kd.R_mono HO570.out (fun _ hk => hk.2)⟩, ⟨by repeat (first | (with_reducible first | exact HB.out | apply below_alloc | apply pw_below_drewN | apply below_drew1) | exact HB.out)⟩⟩
     case rest =>
      clear HC11
      try clear c1
      try clear c2
      try clear p2
      try clear c4
      try clear c7
      try clear c7b0
      try clear c7b1
      try clear c8
      try clear c8b0
      try clear c8b1
      try clear c9
      try clear c9b0
      try clear c9b1
      try clear c15
      try clear c16
      try clear c16b0
      try clear c16b1
      try clear c17
      try clear p2
      obtain ⟨kq, x41_10, rfl, HA, HJ10, HO_5, HO_8, HB⟩ := hcut
      cases kq with
      | zero => exact absurd HA.out (by simp [turndownlaw06_CodeDecodes.j1])
      | succ kj10 =>
       have H := HA.out
       clear HA
       simp only [turndownlaw06_CodeDecodes.j1] at H
       by_cases c18 : x41_10 = true
       ·
        subst c18
        have H1 : (if (t567.length : Int) = 0 then (if t568 = 2 then ((turndownlaw06_awake.f kj10).bind fun t573 => (some t573)) else (some false)) else (some false)) = some r := by rw [if_pos rfl] at H; exact H
        clear H
        have H := H1
        clear H1
        by_cases c19 : (t567.length : Int) = 0
        ·
         rw [if_pos c19] at H
         have c19b0 : ((t567.length : Int) == 0) = true := beq_iff_eq.mpr c19
         have c19b1 : ((t567.length : Int) != 0) = false := bne_eq_false_iff_eq.mpr c19
         clear c19
         by_cases c20 : t568 = 2
         ·
          rw [if_pos c20] at H
          have c20b0 : (t568 == 2) = true := beq_iff_eq.mpr c20
          have c20b1 : (t568 != 2) = false := bne_eq_false_iff_eq.mpr c20
          clear c20
          replace H := Option.bind_eq_some_iff.mp H
          obtain ⟨t573, A210, H⟩ := H
          replace H : (some t573) = some r := H
          have A21 := Aside0.mk A210
          clear A210
          obtain rfl := Option.some.inj H
          obtain ⟨Ao22, co22, eo22⟩ := Kd.R_slice HO_8.out
          subst eo22
          go_wp2_with (first | (go_at_call 22; (with_reducible refine (turndownlaw06_awake.calls kj10  t573 _ A21.out).mono ?_); rintro e w23 ⟨rfl, hb⟩; have n0_ := Aside0.mk (Kd.R_below (by (with_reducible repeat (first | apply Kd.R_alloc | apply Kd.R_drewN | apply Kd.R_drew)); exact HO_5.out) hb); have n1_ := Aside0.mk (Kd.R_below (by (with_reducible repeat (first | apply Kd.R_alloc | apply Kd.R_drewN | apply Kd.R_drew)); exact HO_8.out) hb); have n2_ := Aside0.mk (below_step (by repeat (first | (with_reducible first | exact HB.out | apply below_alloc | apply pw_below_drewN | apply below_drew1) | exact HB.out)) hb); clear HO_5; clear HO_8; clear HB; have HO_5 := n0_; have HO_8 := n1_; have HB := n2_; clear n0_ n1_ n2_; (try clear hb); (try clear hb2); (try clear hk); (try clear hi)))
          go_ret
          exact ⟨by first | rfl | (simp [errW_none, errW_some] <;> rfl) | (simp only [← hji4]; first | rfl | (simp [errW_none, errW_some] <;> rfl)) | (simp [*, errW_none, errW_some] <;> rfl), by repeat (first | (with_reducible first | exact HB.out | apply below_alloc | apply pw_below_drewN | apply below_drew1) | exact HB.out)⟩
         ·
          rw [if_neg c20] at H
          have c20b0 : (t568 == 2) = false := beq_eq_false_iff_ne.mpr c20
          have c20b1 : (t568 != 2) = true := bne_iff_ne.mpr c20
          obtain rfl := Option.some.inj H
          obtain ⟨Ao24, co24, eo24⟩ := Kd.R_slice HO_8.out
          subst eo24
          go_wp2
          go_ret
          exact ⟨by first | rfl | (simp [errW_none, errW_some] <;> rfl) | (simp only [← hji4]; first | rfl | (simp [errW_none, errW_some] <;> rfl)) | (simp [*, errW_none, errW_some] <;> rfl), by repeat (first | (with_reducible first | exact HB.out | apply below_alloc | apply pw_below_drewN | apply below_drew1) | exact HB.out)⟩
        ·
         rw [if_neg c19] at H
         have c19b0 : ((t567.length : Int) == 0) = false := beq_eq_false_iff_ne.mpr c19
         have c19b1 : ((t567.length : Int) != 0) = true := bne_iff_ne.mpr c19
         have c19b2 : ¬ (t567 = []) := fun h_ => c19 (by rw [h_]; rfl)
         obtain rfl := Option.some.inj H
         obtain ⟨Ao25, co25, eo25⟩ := Kd.R_slice HO_8.out
         subst eo25
         go_wp2
         go_ret
         exact ⟨by first | rfl | (simp [errW_none, errW_some] <;> rfl) | (simp only [← hji4]; first | rfl | (simp [errW_none, errW_some] <;> rfl)) | (simp [*, errW_none, errW_some] <;> rfl), by repeat (first | (with_reducible first | exact HB.out | apply below_alloc | apply pw_below_drewN | apply below_drew1) | exact HB.out)⟩
       ·
        replace c18 := Bool.eq_false_iff.mpr c18
        subst c18
        have H1 : ((turndownref06_Possible.f kj10 t564).bind fun t574 => (if t574 = true then ((turndownref06_Decode.f kj10 t564 mx).bind fun bt576 => (if bt576.2 = true then ((turndownlaw06_ints.f kj10 t567 bt576.1).bind fun t580 => (if t580 = true then (if t568 = 0 then ((turndownlaw06_awake.f kj10).bind fun t581 => (some t581)) else (some false)) else (some false))) else (if (t567.length : Int) = 0 then (if t568 = 60 then ((turndownlaw06_awake.f kj10).bind fun t582 => (some t582)) else (some false)) else (some false)))) else (if (t567.length : Int) = 0 then (if t568 = 60 then ((turndownlaw06_awake.f kj10).bind fun t575 => (some t575)) else (some false)) else (some false)))) = some r := by rw [if_neg (show ¬ (false = true) by decide)] at H; exact H
        clear H
        have H := H1
        clear H1
        replace H := Option.bind_eq_some_iff.mp H
        obtain ⟨t574, A260, H⟩ := H
        replace H : (if t574 = true then ((turndownref06_Decode.f kj10 t564 mx).bind fun bt576 => (if bt576.2 = true then ((turndownlaw06_ints.f kj10 t567 bt576.1).bind fun t580 => (if t580 = true then (if t568 = 0 then ((turndownlaw06_awake.f kj10).bind fun t581 => (some t581)) else (some false)) else (some false))) else (if (t567.length : Int) = 0 then (if t568 = 60 then ((turndownlaw06_awake.f kj10).bind fun t582 => (some t582)) else (some false)) else (some false)))) else (if (t567.length : Int) = 0 then (if t568 = 60 then ((turndownlaw06_awake.f kj10).bind fun t575 => (some t575)) else (some false)) else (some false))) = some r := H
        have A26 := Aside0.mk A260
        clear A260
        by_cases c27 : t574 = true
        ·
         subst c27
         have H1 : ((turndownref06_Decode.f kj10 t564 mx).bind fun bt576 => (if bt576.2 = true then ((turndownlaw06_ints.f kj10 t567 bt576.1).bind fun t580 => (if t580 = true then (if t568 = 0 then ((turndownlaw06_awake.f kj10).bind fun t581 => (some t581)) else (some false)) else (some false))) else (if (t567.length : Int) = 0 then (if t568 = 60 then ((turndownlaw06_awake.f kj10).bind fun t582 => (some t582)) else (some false)) else (some false)))) = some r := by rw [if_pos rfl] at H; exact H
         clear H
         have H := H1
         clear H1
         replace H := Option.bind_eq_some_iff.mp H
         obtain ⟨⟨t576, t577⟩, A280, H⟩ := H
         replace H : (if t577 = true then ((turndownlaw06_ints.f kj10 t567 t576).bind fun t580 => (if t580 = true then (if t568 = 0 then ((turndownlaw06_awake.f kj10).bind fun t581 => (some t581)) else (some false)) else (some false))) else (if (t567.length : Int) = 0 then (if t568 = 60 then ((turndownlaw06_awake.f kj10).bind fun t582 => (some t582)) else (some false)) else (some false))) = some r := H
         have A28 := Aside0.mk A280
         clear A280
         by_cases c29 : t577 = true
         ·
          subst c29
          have H1 : ((turndownlaw06_ints.f kj10 t567 t576).bind fun t580 => (if t580 = true then (if t568 = 0 then ((turndownlaw06_awake.f kj10).bind fun t581 => (some t581)) else (some false)) else (some false))) = some r := by rw [if_pos rfl] at H; exact H
          clear H
          have H := H1
          clear H1
          replace H := Option.bind_eq_some_iff.mp H
          obtain ⟨t580, A300, H⟩ := H
          replace H : (if t580 = true then (if t568 = 0 then ((turndownlaw06_awake.f kj10).bind fun t581 => (some t581)) else (some false)) else (some false)) = some r := H
          have A30 := Aside0.mk A300
          clear A300
          by_cases c31 : t580 = true
          ·
           subst c31
           have H1 : (if t568 = 0 then ((turndownlaw06_awake.f kj10).bind fun t581 => (some t581)) else (some false)) = some r := by rw [if_pos rfl] at H; exact H
           clear H
           have H := H1
           clear H1
           by_cases c32 : t568 = 0
           ·
            rw [if_pos c32] at H
            have c32b0 : (t568 == 0) = true := beq_iff_eq.mpr c32
            have c32b1 : (t568 != 0) = false := bne_eq_false_iff_eq.mpr c32
            clear c32
            replace H := Option.bind_eq_some_iff.mp H
            obtain ⟨t581, A330, H⟩ := H
            replace H : (some t581) = some r := H
            have A33 := Aside0.mk A330
            clear A330
            obtain rfl := Option.some.inj H
            go_wp2_with (first | ((with_reducible refine gate_callee (f := 25) rfl ?_); refine goesL_ (some 53) rfl rfl Try.func25 (by kernel_rfl) rfl #[.slice Ao12 t564.length co12] rfl (by (try simp only [List.map_toArray, List.map_cons, List.map_nil]); first | done | rfl | (simp only [List.length_drop, List.length_take]; rfl)) ?_; (with_reducible refine (turndownref06_Possible.calls kj10 _ _ t564 true _ ?side1 ?side2 A26.out).mono ?_); (case side1 => repeat (first | exact (Kd.R_reads' HO_5.out).2.2 | (with_reducible refine Kd.C_alloc ?_ _) | (with_reducible refine Kd.C_drewN ?_ _) | (with_reducible refine Kd.C_drew ?_))); (case side2 => exact (Kd.R_reads' HO_5.out).2.1); rintro e w' ⟨rfl, ⟨nd, rfl⟩⟩; refine ⟨_, rfl, ?_⟩) | ((with_reducible refine gate_callee (f := 48) rfl ?_); refine goesL_ (some 68) rfl rfl Try.func48 (by kernel_rfl) rfl #[.slice Ao12 t564.length co12, .string mx] rfl (by (try simp only [List.map_toArray, List.map_cons, List.map_nil]); first | done | rfl | (simp only [List.length_drop, List.length_take]; rfl)) ?_; (with_reducible refine (turndownref06_Decode.calls kj10 _ _ t564 mx t576 true _ ?side1 ?side2 A28.out).mono ?_); (case side1 => repeat (first | exact (Kd.R_reads' HO_5.out).2.2 | (with_reducible refine Kd.C_alloc ?_ _) | (with_reducible refine Kd.C_drewN ?_ _) | (with_reducible refine Kd.C_drew ?_))); (case side2 => exact (Kd.R_reads' HO_5.out).2.1); rintro e w34 ⟨v578, rfl, ho0, hb⟩; refine ⟨_, rfl, ?_⟩; have n0_ := Aside0.mk (Kd.R_elder' (by (with_reducible repeat (first | apply Kd.R_alloc | apply Kd.R_drewN | apply Kd.R_drew)); exact HO_5.out) (Kd.R_base ho0) hb); have n1_ := Aside0.mk (Kd.R_elder' (by (with_reducible repeat (first | apply Kd.R_alloc | apply Kd.R_drewN | apply Kd.R_drew)); exact HO_8.out) (Kd.R_base ho0) hb); have n2_ := Aside0.mk (Kd.R_lower (Kd.R_new' (Kd.R_new' ho0 (Kd.R_lt (by (with_reducible repeat (first | apply Kd.R_alloc | apply Kd.R_drewN | apply Kd.R_drew)); exact HO_5.out))) (Kd.R_lt (by (with_reducible repeat (first | apply Kd.R_alloc | apply Kd.R_drewN | apply Kd.R_drew)); exact HO_8.out))) (below_size (by repeat (first | (with_reducible first | exact HB.out | apply below_alloc | apply pw_below_drewN | apply below_drew1) | exact HB.out)))); have n3_ := Aside0.mk (below_step (by repeat (first | (with_reducible first | exact HB.out | apply below_alloc | apply pw_below_drewN | apply below_drew1) | exact HB.out)) hb); clear HO_5; clear HO_8; clear HB; have HO_5 := n0_; have HO_8 := n1_; have HO579 := n2_; have HB := n3_; clear n0_ n1_ n2_ n3_; (try clear hb); (try clear hb2); (try clear hk); (try clear hi); (try clear ho0); obtain ⟨Ao35, co35, eo35⟩ := Kd.R_slice HO_8.out; subst eo35; obtain ⟨Ao36, co36, eo36⟩ := Kd.R_slice HO579.out; subst eo36) | ((with_reducible refine gate_callee (f := 46) rfl ?_); refine goesL_ (some 85) rfl rfl Try.func46 (by kernel_rfl) rfl #[.slice Ao35 t567.length co35, .slice Ao36 t576.length co36] rfl (by (try simp only [List.map_toArray, List.map_cons, List.map_nil]); first | done | rfl | (simp only [List.length_drop, List.length_take]; rfl)) ?_; (with_reducible refine (turndownlaw06_ints.calls kj10 _ _ t567 _ _ t576 true _ ?side1 ?side2 ?side3 ?side4 A30.out).mono ?_); (case side1 => repeat (first | exact (Kd.R_reads' HO_8.out).2.2 | (with_reducible refine Kd.C_alloc ?_ _) | (with_reducible refine Kd.C_drewN ?_ _) | (with_reducible refine Kd.C_drew ?_))); (case side2 => exact (Kd.R_reads' HO_8.out).2.1); (case side3 => repeat (first | exact (Kd.R_reads' HO579.out).2.2 | (with_reducible refine Kd.C_alloc ?_ _) | (with_reducible refine Kd.C_drewN ?_ _) | (with_reducible refine Kd.C_drew ?_))); (case side4 => exact (Kd.R_reads' HO579.out).2.1); rintro e w' ⟨rfl, ⟨nd, rfl⟩⟩; refine ⟨_, rfl, ?_⟩) | (go_at_call 22; (with_reducible refine (turndownlaw06_awake.calls kj10  t581 _ A33.out).mono ?_); rintro e w37 ⟨rfl, hb⟩; have n0_ := Aside0.mk (Kd.R_below (by (with_reducible repeat (first | apply Kd.R_alloc | apply Kd.R_drewN | apply Kd.R_drew)); exact HO_5.out) hb); have n1_ := Aside0.mk (Kd.R_below (by (with_reducible repeat (first | apply Kd.R_alloc | apply Kd.R_drewN | apply Kd.R_drew)); exact HO_8.out) hb); have n2_ := Aside0.mk (Kd.R_below (by (with_reducible repeat (first | apply Kd.R_alloc | apply Kd.R_drewN | apply Kd.R_drew)); exact HO579.out) hb); have n3_ := Aside0.mk (below_step (by repeat (first | (with_reducible first | exact HB.out | apply below_alloc | apply pw_below_drewN | apply below_drew1) | exact HB.out)) hb); clear HO_5; clear HO_8; clear HO579; clear HB; have HO_5 := n0_; have HO_8 := n1_; have HO579 := n2_; have HB := n3_; clear n0_ n1_ n2_ n3_; (try clear hb); (try clear hb2); (try clear hk); (try clear hi)))
            go_ret
            exact ⟨by first | rfl | (simp [errW_none, errW_some] <;> rfl) | (simp only [← hji4]; first | rfl | (simp [errW_none, errW_some] <;> rfl)) | (simp [*, errW_none, errW_some] <;> rfl), by repeat (first | (with_reducible first | exact HB.out | apply below_alloc | apply pw_below_drewN | apply below_drew1) | exact HB.out)⟩
           ·
            rw [if_neg c32] at H
            have c32b0 : (t568 == 0) = false := beq_eq_false_iff_ne.mpr c32
            have c32b1 : (t568 != 0) = true := bne_iff_ne.mpr c32
            obtain rfl := Option.some.inj H
            go_wp2_with (first | ((with_reducible refine gate_callee (f := 25) rfl ?_); refine goesL_ (some 53) rfl rfl Try.func25 (by kernel_rfl) rfl #[.slice Ao12 t564.length co12] rfl (by (try simp only [List.map_toArray, List.map_cons, List.map_nil]); first | done | rfl | (simp only [List.length_drop, List.length_take]; rfl)) ?_; (with_reducible refine (turndownref06_Possible.calls kj10 _ _ t564 true _ ?side1 ?side2 A26.out).mono ?_); (case side1 => repeat (first | exact (Kd.R_reads' HO_5.out).2.2 | (with_reducible refine Kd.C_alloc ?_ _) | (with_reducible refine Kd.C_drewN ?_ _) | (with_reducible refine Kd.C_drew ?_))); (case side2 => exact (Kd.R_reads' HO_5.out).2.1); rintro e w' ⟨rfl, ⟨nd, rfl⟩⟩; refine ⟨_, rfl, ?_⟩) | ((with_reducible refine gate_callee (f := 48) rfl ?_); refine goesL_ (some 68) rfl rfl Try.func48 (by kernel_rfl) rfl #[.slice Ao12 t564.length co12, .string mx] rfl (by (try simp only [List.map_toArray, List.map_cons, List.map_nil]); first | done | rfl | (simp only [List.length_drop, List.length_take]; rfl)) ?_; (with_reducible refine (turndownref06_Decode.calls kj10 _ _ t564 mx t576 true _ ?side1 ?side2 A28.out).mono ?_); (case side1 => repeat (first | exact (Kd.R_reads' HO_5.out).2.2 | (with_reducible refine Kd.C_alloc ?_ _) | (with_reducible refine Kd.C_drewN ?_ _) | (with_reducible refine Kd.C_drew ?_))); (case side2 => exact (Kd.R_reads' HO_5.out).2.1); rintro e w38 ⟨v578, rfl, ho0, hb⟩; refine ⟨_, rfl, ?_⟩; have n0_ := Aside0.mk (Kd.R_elder' (by (with_reducible repeat (first | apply Kd.R_alloc | apply Kd.R_drewN | apply Kd.R_drew)); exact HO_5.out) (Kd.R_base ho0) hb); have n1_ := Aside0.mk (Kd.R_elder' (by (with_reducible repeat (first | apply Kd.R_alloc | apply Kd.R_drewN | apply Kd.R_drew)); exact HO_8.out) (Kd.R_base ho0) hb); have n2_ := Aside0.mk (Kd.R_lower (Kd.R_new' (Kd.R_new' ho0 (Kd.R_lt (by (with_reducible repeat (first | apply Kd.R_alloc | apply Kd.R_drewN | apply Kd.R_drew)); exact HO_5.out))) (Kd.R_lt (by (with_reducible repeat (first | apply Kd.R_alloc | apply Kd.R_drewN | apply Kd.R_drew)); exact HO_8.out))) (below_size (by repeat (first | (with_reducible first | exact HB.out | apply below_alloc | apply pw_below_drewN | apply below_drew1) | exact HB.out)))); have n3_ := Aside0.mk (below_step (by repeat (first | (with_reducible first | exact HB.out | apply below_alloc | apply pw_below_drewN | apply below_drew1) | exact HB.out)) hb); clear HO_5; clear HO_8; clear HB; have HO_5 := n0_; have HO_8 := n1_; have HO579 := n2_; have HB := n3_; clear n0_ n1_ n2_ n3_; (try clear hb); (try clear hb2); (try clear hk); (try clear hi); (try clear ho0); obtain ⟨Ao39, co39, eo39⟩ := Kd.R_slice HO_8.out; subst eo39; obtain ⟨Ao40, co40, eo40⟩ := Kd.R_slice HO579.out; subst eo40) | ((with_reducible refine gate_callee (f := 46) rfl ?_); refine goesL_ (some 85) rfl rfl Try.func46 (by kernel_rfl) rfl #[.slice Ao39 t567.length co39, .slice Ao40 t576.length co40] rfl (by (try simp only [List.map_toArray, List.map_cons, List.map_nil]); first | done | rfl | (simp only [List.length_drop, List.length_take]; rfl)) ?_; (with_reducible refine (turndownlaw06_ints.calls kj10 _ _ t567 _ _ t576 true _ ?side1 ?side2 ?side3 ?side4 A30.out).mono ?_); (case side1 => repeat (first | exact (Kd.R_reads' HO_8.out).2.2 | (with_reducible refine Kd.C_alloc ?_ _) | (with_reducible refine Kd.C_drewN ?_ _) | (with_reducible refine Kd.C_drew ?_))); (case side2 => exact (Kd.R_reads' HO_8.out).2.1); (case side3 => repeat (first | exact (Kd.R_reads' HO579.out).2.2 | (with_reducible refine Kd.C_alloc ?_ _) | (with_reducible refine Kd.C_drewN ?_ _) | (with_reducible refine Kd.C_drew ?_))); (case side4 => exact (Kd.R_reads' HO579.out).2.1); rintro e w' ⟨rfl, ⟨nd, rfl⟩⟩; refine ⟨_, rfl, ?_⟩))
            go_ret
            exact ⟨by first | rfl | (simp [errW_none, errW_some] <;> rfl) | (simp only [← hji4]; first | rfl | (simp [errW_none, errW_some] <;> rfl)) | (simp [*, errW_none, errW_some] <;> rfl), by repeat (first | (with_reducible first | exact HB.out | apply below_alloc | apply pw_below_drewN | apply below_drew1) | exact HB.out)⟩
          ·
           replace c31 := Bool.eq_false_iff.mpr c31
           subst c31
           have H1 : (some false) = some r := by rw [if_neg (show ¬ (false = true) by decide)] at H; exact H
           clear H
           have H := H1
           clear H1
           obtain rfl := Option.some.inj H
           go_wp2_with (first | ((with_reducible refine gate_callee (f := 25) rfl ?_); refine goesL_ (some 53) rfl rfl Try.func25 (by kernel_rfl) rfl #[.slice Ao12 t564.length co12] rfl (by (try simp only [List.map_toArray, List.map_cons, List.map_nil]); first | done | rfl | (simp only [List.length_drop, List.length_take]; rfl)) ?_; (with_reducible refine (turndownref06_Possible.calls kj10 _ _ t564 true _ ?side1 ?side2 A26.out).mono ?_); (case side1 => repeat (first | exact (Kd.R_reads' HO_5.out).2.2 | (with_reducible refine Kd.C_alloc ?_ _) | (with_reducible refine Kd.C_drewN ?_ _) | (with_reducible refine Kd.C_drew ?_))); (case side2 => exact (Kd.R_reads' HO_5.out).2.1); rintro e w' ⟨rfl, ⟨nd, rfl⟩⟩; refine ⟨_, rfl, ?_⟩) | ((with_reducible refine gate_callee (f := 48) rfl ?_); refine goesL_ (some 68) rfl rfl Try.func48 (by kernel_rfl) rfl #[.slice Ao12 t564.length co12, .string mx] rfl (by (try simp only [List.map_toArray, List.map_cons, List.map_nil]); first | done | rfl | (simp only [List.length_drop, List.length_take]; rfl)) ?_; (with_reducible refine (turndownref06_Decode.calls kj10 _ _ t564 mx t576 true _ ?side1 ?side2 A28.out).mono ?_); (case side1 => repeat (first | exact (Kd.R_reads' HO_5.out).2.2 | (with_reducible refine Kd.C_alloc ?_ _) | (with_reducible refine Kd.C_drewN ?_ _) | (with_reducible refine Kd.C_drew ?_))); (case side2 => exact (Kd.R_reads' HO_5.out).2.1); rintro e w41 ⟨v578, rfl, ho0, hb⟩; refine ⟨_, rfl, ?_⟩; have n0_ := Aside0.mk (Kd.R_elder' (by (with_reducible repeat (first | apply Kd.R_alloc | apply Kd.R_drewN | apply Kd.R_drew)); exact HO_5.out) (Kd.R_base ho0) hb); have n1_ := Aside0.mk (Kd.R_elder' (by (with_reducible repeat (first | apply Kd.R_alloc | apply Kd.R_drewN | apply Kd.R_drew)); exact HO_8.out) (Kd.R_base ho0) hb); have n2_ := Aside0.mk (Kd.R_lower (Kd.R_new' (Kd.R_new' ho0 (Kd.R_lt (by (with_reducible repeat (first | apply Kd.R_alloc | apply Kd.R_drewN | apply Kd.R_drew)); exact HO_5.out))) (Kd.R_lt (by (with_reducible repeat (first | apply Kd.R_alloc | apply Kd.R_drewN | apply Kd.R_drew)); exact HO_8.out))) (below_size (by repeat (first | (with_reducible first | exact HB.out | apply below_alloc | apply pw_below_drewN | apply below_drew1) | exact HB.out)))); have n3_ := Aside0.mk (below_step (by repeat (first | (with_reducible first | exact HB.out | apply below_alloc | apply pw_below_drewN | apply below_drew1) | exact HB.out)) hb); clear HO_5; clear HO_8; clear HB; have HO_5 := n0_; have HO_8 := n1_; have HO579 := n2_; have HB := n3_; clear n0_ n1_ n2_ n3_; (try clear hb); (try clear hb2); (try clear hk); (try clear hi); (try clear ho0); obtain ⟨Ao42, co42, eo42⟩ := Kd.R_slice HO_8.out; subst eo42; obtain ⟨Ao43, co43, eo43⟩ := Kd.R_slice HO579.out; subst eo43) | ((with_reducible refine gate_callee (f := 46) rfl ?_); refine goesL_ (some 85) rfl rfl Try.func46 (by kernel_rfl) rfl #[.slice Ao42 t567.length co42, .slice Ao43 t576.length co43] rfl (by (try simp only [List.map_toArray, List.map_cons, List.map_nil]); first | done | rfl | (simp only [List.length_drop, List.length_take]; rfl)) ?_; (with_reducible refine (turndownlaw06_ints.calls kj10 _ _ t567 _ _ t576 false _ ?side1 ?side2 ?side3 ?side4 A30.out).mono ?_); (case side1 => repeat (first | exact (Kd.R_reads' HO_8.out).2.2 | (with_reducible refine Kd.C_alloc ?_ _) | (with_reducible refine Kd.C_drewN ?_ _) | (with_reducible refine Kd.C_drew ?_))); (case side2 => exact (Kd.R_reads' HO_8.out).2.1); (case side3 => repeat (first | exact (Kd.R_reads' HO579.out).2.2 | (with_reducible refine Kd.C_alloc ?_ _) | (with_reducible refine Kd.C_drewN ?_ _) | (with_reducible refine Kd.C_drew ?_))); (case side4 => exact (Kd.R_reads' HO579.out).2.1); rintro e w' ⟨rfl, ⟨nd, rfl⟩⟩; refine ⟨_, rfl, ?_⟩))
           go_ret
           exact ⟨by first | rfl | (simp [errW_none, errW_some] <;> rfl) | (simp only [← hji4]; first | rfl | (simp [errW_none, errW_some] <;> rfl)) | (simp [*, errW_none, errW_some] <;> rfl), by repeat (first | (with_reducible first | exact HB.out | apply below_alloc | apply pw_below_drewN | apply below_drew1) | exact HB.out)⟩
         ·
          replace c29 := Bool.eq_false_iff.mpr c29
          subst c29
          have H1 : (if (t567.length : Int) = 0 then (if t568 = 60 then ((turndownlaw06_awake.f kj10).bind fun t582 => (some t582)) else (some false)) else (some false)) = some r := by rw [if_neg (show ¬ (false = true) by decide)] at H; exact H
          clear H
          have H := H1
          clear H1
          by_cases c44 : (t567.length : Int) = 0
          ·
           rw [if_pos c44] at H
           have c44b0 : ((t567.length : Int) == 0) = true := beq_iff_eq.mpr c44
           have c44b1 : ((t567.length : Int) != 0) = false := bne_eq_false_iff_eq.mpr c44
           clear c44
           by_cases c45 : t568 = 60
           ·
            rw [if_pos c45] at H
            have c45b0 : (t568 == 60) = true := beq_iff_eq.mpr c45
            have c45b1 : (t568 != 60) = false := bne_eq_false_iff_eq.mpr c45
            clear c45
            replace H := Option.bind_eq_some_iff.mp H
            obtain ⟨t582, A460, H⟩ := H
            replace H : (some t582) = some r := H
            have A46 := Aside0.mk A460
            clear A460
            obtain rfl := Option.some.inj H
            go_wp2_with (first | ((with_reducible refine gate_callee (f := 25) rfl ?_); refine goesL_ (some 53) rfl rfl Try.func25 (by kernel_rfl) rfl #[.slice Ao12 t564.length co12] rfl (by (try simp only [List.map_toArray, List.map_cons, List.map_nil]); first | done | rfl | (simp only [List.length_drop, List.length_take]; rfl)) ?_; (with_reducible refine (turndownref06_Possible.calls kj10 _ _ t564 true _ ?side1 ?side2 A26.out).mono ?_); (case side1 => repeat (first | exact (Kd.R_reads' HO_5.out).2.2 | (with_reducible refine Kd.C_alloc ?_ _) | (with_reducible refine Kd.C_drewN ?_ _) | (with_reducible refine Kd.C_drew ?_))); (case side2 => exact (Kd.R_reads' HO_5.out).2.1); rintro e w' ⟨rfl, ⟨nd, rfl⟩⟩; refine ⟨_, rfl, ?_⟩) | ((with_reducible refine gate_callee (f := 48) rfl ?_); refine goesL_ (some 68) rfl rfl Try.func48 (by kernel_rfl) rfl #[.slice Ao12 t564.length co12, .string mx] rfl (by (try simp only [List.map_toArray, List.map_cons, List.map_nil]); first | done | rfl | (simp only [List.length_drop, List.length_take]; rfl)) ?_; (with_reducible refine (turndownref06_Decode.calls kj10 _ _ t564 mx t576 false _ ?side1 ?side2 A28.out).mono ?_); (case side1 => repeat (first | exact (Kd.R_reads' HO_5.out).2.2 | (with_reducible refine Kd.C_alloc ?_ _) | (with_reducible refine Kd.C_drewN ?_ _) | (with_reducible refine Kd.C_drew ?_))); (case side2 => exact (Kd.R_reads' HO_5.out).2.1); rintro e w47 ⟨v578, rfl, ho0, hb⟩; refine ⟨_, rfl, ?_⟩; have n0_ := Aside0.mk (Kd.R_elder' (by (with_reducible repeat (first | apply Kd.R_alloc | apply Kd.R_drewN | apply Kd.R_drew)); exact HO_5.out) (Kd.R_base ho0) hb); have n1_ := Aside0.mk (Kd.R_elder' (by (with_reducible repeat (first | apply Kd.R_alloc | apply Kd.R_drewN | apply Kd.R_drew)); exact HO_8.out) (Kd.R_base ho0) hb); have n2_ := Aside0.mk (Kd.R_lower (Kd.R_new' (Kd.R_new' ho0 (Kd.R_lt (by (with_reducible repeat (first | apply Kd.R_alloc | apply Kd.R_drewN | apply Kd.R_drew)); exact HO_5.out))) (Kd.R_lt (by (with_reducible repeat (first | apply Kd.R_alloc | apply Kd.R_drewN | apply Kd.R_drew)); exact HO_8.out))) (below_size (by repeat (first | (with_reducible first | exact HB.out | apply below_alloc | apply pw_below_drewN | apply below_drew1) | exact HB.out)))); have n3_ := Aside0.mk (below_step (by repeat (first | (with_reducible first | exact HB.out | apply below_alloc | apply pw_below_drewN | apply below_drew1) | exact HB.out)) hb); clear HO_5; clear HO_8; clear HB; have HO_5 := n0_; have HO_8 := n1_; have HO579 := n2_; have HB := n3_; clear n0_ n1_ n2_ n3_; (try clear hb); (try clear hb2); (try clear hk); (try clear hi); (try clear ho0); obtain ⟨Ao48, co48, eo48⟩ := Kd.R_slice HO_8.out; subst eo48) | (go_at_call 22; (with_reducible refine (turndownlaw06_awake.calls kj10  t582 _ A46.out).mono ?_); rintro e w49 ⟨rfl, hb⟩; have n0_ := Aside0.mk (Kd.R_below (by (with_reducible repeat (first | apply Kd.R_alloc | apply Kd.R_drewN | apply Kd.R_drew)); exact HO_5.out) hb); have n1_ := Aside0.mk (Kd.R_below (by (with_reducible repeat (first | apply Kd.R_alloc | apply Kd.R_drewN | apply Kd.R_drew)); exact HO_8.out) hb); have n2_ := Aside0.mk (Kd.R_below (by (with_reducible repeat (first | apply Kd.R_alloc | apply Kd.R_drewN | apply Kd.R_drew)); exact HO579.out) hb); have n3_ := Aside0.mk (below_step (by repeat (first | (with_reducible first | exact HB.out | apply below_alloc | apply pw_below_drewN | apply below_drew1) | exact HB.out)) hb); clear HO_5; clear HO_8; clear HO579; clear HB; have HO_5 := n0_; have HO_8 := n1_; have HO579 := n2_; have HB := n3_; clear n0_ n1_ n2_ n3_; (try clear hb); (try clear hb2); (try clear hk); (try clear hi)))
            go_ret
            exact ⟨by first | rfl | (simp [errW_none, errW_some] <;> rfl) | (simp only [← hji4]; first | rfl | (simp [errW_none, errW_some] <;> rfl)) | (simp [*, errW_none, errW_some] <;> rfl), by repeat (first | (with_reducible first | exact HB.out | apply below_alloc | apply pw_below_drewN | apply below_drew1) | exact HB.out)⟩
           ·
            rw [if_neg c45] at H
            have c45b0 : (t568 == 60) = false := beq_eq_false_iff_ne.mpr c45
            have c45b1 : (t568 != 60) = true := bne_iff_ne.mpr c45
            obtain rfl := Option.some.inj H
            go_wp2_with (first | ((with_reducible refine gate_callee (f := 25) rfl ?_); refine goesL_ (some 53) rfl rfl Try.func25 (by kernel_rfl) rfl #[.slice Ao12 t564.length co12] rfl (by (try simp only [List.map_toArray, List.map_cons, List.map_nil]); first | done | rfl | (simp only [List.length_drop, List.length_take]; rfl)) ?_; (with_reducible refine (turndownref06_Possible.calls kj10 _ _ t564 true _ ?side1 ?side2 A26.out).mono ?_); (case side1 => repeat (first | exact (Kd.R_reads' HO_5.out).2.2 | (with_reducible refine Kd.C_alloc ?_ _) | (with_reducible refine Kd.C_drewN ?_ _) | (with_reducible refine Kd.C_drew ?_))); (case side2 => exact (Kd.R_reads' HO_5.out).2.1); rintro e w' ⟨rfl, ⟨nd, rfl⟩⟩; refine ⟨_, rfl, ?_⟩) | ((with_reducible refine gate_callee (f := 48) rfl ?_); refine goesL_ (some 68) rfl rfl Try.func48 (by kernel_rfl) rfl #[.slice Ao12 t564.length co12, .string mx] rfl (by (try simp only [List.map_toArray, List.map_cons, List.map_nil]); first | done | rfl | (simp only [List.length_drop, List.length_take]; rfl)) ?_; (with_reducible refine (turndownref06_Decode.calls kj10 _ _ t564 mx t576 false _ ?side1 ?side2 A28.out).mono ?_); (case side1 => repeat (first | exact (Kd.R_reads' HO_5.out).2.2 | (with_reducible refine Kd.C_alloc ?_ _) | (with_reducible refine Kd.C_drewN ?_ _) | (with_reducible refine Kd.C_drew ?_))); (case side2 => exact (Kd.R_reads' HO_5.out).2.1); rintro e w50 ⟨v578, rfl, ho0, hb⟩; refine ⟨_, rfl, ?_⟩; have n0_ := Aside0.mk (Kd.R_elder' (by (with_reducible repeat (first | apply Kd.R_alloc | apply Kd.R_drewN | apply Kd.R_drew)); exact HO_5.out) (Kd.R_base ho0) hb); have n1_ := Aside0.mk (Kd.R_elder' (by (with_reducible repeat (first | apply Kd.R_alloc | apply Kd.R_drewN | apply Kd.R_drew)); exact HO_8.out) (Kd.R_base ho0) hb); have n2_ := Aside0.mk (Kd.R_lower (Kd.R_new' (Kd.R_new' ho0 (Kd.R_lt (by (with_reducible repeat (first | apply Kd.R_alloc | apply Kd.R_drewN | apply Kd.R_drew)); exact HO_5.out))) (Kd.R_lt (by (with_reducible repeat (first | apply Kd.R_alloc | apply Kd.R_drewN | apply Kd.R_drew)); exact HO_8.out))) (below_size (by repeat (first | (with_reducible first | exact HB.out | apply below_alloc | apply pw_below_drewN | apply below_drew1) | exact HB.out)))); have n3_ := Aside0.mk (below_step (by repeat (first | (with_reducible first | exact HB.out | apply below_alloc | apply pw_below_drewN | apply below_drew1) | exact HB.out)) hb); clear HO_5; clear HO_8; clear HB; have HO_5 := n0_; have HO_8 := n1_; have HO579 := n2_; have HB := n3_; clear n0_ n1_ n2_ n3_; (try clear hb); (try clear hb2); (try clear hk); (try clear hi); (try clear ho0); obtain ⟨Ao51, co51, eo51⟩ := Kd.R_slice HO_8.out; subst eo51))
            go_ret
            exact ⟨by first | rfl | (simp [errW_none, errW_some] <;> rfl) | (simp only [← hji4]; first | rfl | (simp [errW_none, errW_some] <;> rfl)) | (simp [*, errW_none, errW_some] <;> rfl), by repeat (first | (with_reducible first | exact HB.out | apply below_alloc | apply pw_below_drewN | apply below_drew1) | exact HB.out)⟩
          ·
           rw [if_neg c44] at H
           have c44b0 : ((t567.length : Int) == 0) = false := beq_eq_false_iff_ne.mpr c44
           have c44b1 : ((t567.length : Int) != 0) = true := bne_iff_ne.mpr c44
           have c44b2 : ¬ (t567 = []) := fun h_ => c44 (by rw [h_]; rfl)
           obtain rfl := Option.some.inj H
           go_wp2_with (first | ((with_reducible refine gate_callee (f := 25) rfl ?_); refine goesL_ (some 53) rfl rfl Try.func25 (by kernel_rfl) rfl #[.slice Ao12 t564.length co12] rfl (by (try simp only [List.map_toArray, List.map_cons, List.map_nil]); first | done | rfl | (simp only [List.length_drop, List.length_take]; rfl)) ?_; (with_reducible refine (turndownref06_Possible.calls kj10 _ _ t564 true _ ?side1 ?side2 A26.out).mono ?_); (case side1 => repeat (first | exact (Kd.R_reads' HO_5.out).2.2 | (with_reducible refine Kd.C_alloc ?_ _) | (with_reducible refine Kd.C_drewN ?_ _) | (with_reducible refine Kd.C_drew ?_))); (case side2 => exact (Kd.R_reads' HO_5.out).2.1); rintro e w' ⟨rfl, ⟨nd, rfl⟩⟩; refine ⟨_, rfl, ?_⟩) | ((with_reducible refine gate_callee (f := 48) rfl ?_); refine goesL_ (some 68) rfl rfl Try.func48 (by kernel_rfl) rfl #[.slice Ao12 t564.length co12, .string mx] rfl (by (try simp only [List.map_toArray, List.map_cons, List.map_nil]); first | done | rfl | (simp only [List.length_drop, List.length_take]; rfl)) ?_; (with_reducible refine (turndownref06_Decode.calls kj10 _ _ t564 mx t576 false _ ?side1 ?side2 A28.out).mono ?_); (case side1 => repeat (first | exact (Kd.R_reads' HO_5.out).2.2 | (with_reducible refine Kd.C_alloc ?_ _) | (with_reducible refine Kd.C_drewN ?_ _) | (with_reducible refine Kd.C_drew ?_))); (case side2 => exact (Kd.R_reads' HO_5.out).2.1); rintro e w52 ⟨v578, rfl, ho0, hb⟩; refine ⟨_, rfl, ?_⟩; have n0_ := Aside0.mk (Kd.R_elder' (by (with_reducible repeat (first | apply Kd.R_alloc | apply Kd.R_drewN | apply Kd.R_drew)); exact HO_5.out) (Kd.R_base ho0) hb); have n1_ := Aside0.mk (Kd.R_elder' (by (with_reducible repeat (first | apply Kd.R_alloc | apply Kd.R_drewN | apply Kd.R_drew)); exact HO_8.out) (Kd.R_base ho0) hb); have n2_ := Aside0.mk (Kd.R_lower (Kd.R_new' (Kd.R_new' ho0 (Kd.R_lt (by (with_reducible repeat (first | apply Kd.R_alloc | apply Kd.R_drewN | apply Kd.R_drew)); exact HO_5.out))) (Kd.R_lt (by (with_reducible repeat (first | apply Kd.R_alloc | apply Kd.R_drewN | apply Kd.R_drew)); exact HO_8.out))) (below_size (by repeat (first | (with_reducible first | exact HB.out | apply below_alloc | apply pw_below_drewN | apply below_drew1) | exact HB.out)))); have n3_ := Aside0.mk (below_step (by repeat (first | (with_reducible first | exact HB.out | apply below_alloc | apply pw_below_drewN | apply below_drew1) | exact HB.out)) hb); clear HO_5; clear HO_8; clear HB; have HO_5 := n0_; have HO_8 := n1_; have HO579 := n2_; have HB := n3_; clear n0_ n1_ n2_ n3_; (try clear hb); (try clear hb2); (try clear hk); (try clear hi); (try clear ho0); obtain ⟨Ao53, co53, eo53⟩ := Kd.R_slice HO_8.out; subst eo53))
           go_ret
           exact ⟨by first | rfl | (simp [errW_none, errW_some] <;> rfl) | (simp only [← hji4]; first | rfl | (simp [errW_none, errW_some] <;> rfl)) | (simp [*, errW_none, errW_some] <;> rfl), by repeat (first | (with_reducible first | exact HB.out | apply below_alloc | apply pw_below_drewN | apply below_drew1) | exact HB.out)⟩
        ·
         replace c27 := Bool.eq_false_iff.mpr c27
         subst c27
         have H1 : (if (t567.length : Int) = 0 then (if t568 = 60 then ((turndownlaw06_awake.f kj10).bind fun t575 => (some t575)) else (some false)) else (some false)) = some r := by rw [if_neg (show ¬ (false = true) by decide)] at H; exact H
         clear H
         have H := H1
         clear H1
         by_cases c54 : (t567.length : Int) = 0
         ·
          rw [if_pos c54] at H
          have c54b0 : ((t567.length : Int) == 0) = true := beq_iff_eq.mpr c54
          have c54b1 : ((t567.length : Int) != 0) = false := bne_eq_false_iff_eq.mpr c54
          clear c54
          by_cases c55 : t568 = 60
          ·
           rw [if_pos c55] at H
           have c55b0 : (t568 == 60) = true := beq_iff_eq.mpr c55
           have c55b1 : (t568 != 60) = false := bne_eq_false_iff_eq.mpr c55
           clear c55
           replace H := Option.bind_eq_some_iff.mp H
           obtain ⟨t575, A560, H⟩ := H
           replace H : (some t575) = some r := H
           have A56 := Aside0.mk A560
           clear A560
           obtain rfl := Option.some.inj H
           go_wp2_with (first | ((with_reducible refine gate_callee (f := 25) rfl ?_); refine goesL_ (some 53) rfl rfl Try.func25 (by kernel_rfl) rfl #[.slice Ao12 t564.length co12] rfl (by (try simp only [List.map_toArray, List.map_cons, List.map_nil]); first | done | rfl | (simp only [List.length_drop, List.length_take]; rfl)) ?_; (with_reducible refine (turndownref06_Possible.calls kj10 _ _ t564 false _ ?side1 ?side2 A26.out).mono ?_); (case side1 => repeat (first | exact (Kd.R_reads' HO_5.out).2.2 | (with_reducible refine Kd.C_alloc ?_ _) | (with_reducible refine Kd.C_drewN ?_ _) | (with_reducible refine Kd.C_drew ?_))); (case side2 => exact (Kd.R_reads' HO_5.out).2.1); rintro e w' ⟨rfl, ⟨nd, rfl⟩⟩; refine ⟨_, rfl, ?_⟩; obtain ⟨Ao57, co57, eo57⟩ := Kd.R_slice HO_8.out; subst eo57) | (go_at_call 22; (with_reducible refine (turndownlaw06_awake.calls kj10  t575 _ A56.out).mono ?_); rintro e w58 ⟨rfl, hb⟩; have n0_ := Aside0.mk (Kd.R_below (by (with_reducible repeat (first | apply Kd.R_alloc | apply Kd.R_drewN | apply Kd.R_drew)); exact HO_5.out) hb); have n1_ := Aside0.mk (Kd.R_below (by (with_reducible repeat (first | apply Kd.R_alloc | apply Kd.R_drewN | apply Kd.R_drew)); exact HO_8.out) hb); have n2_ := Aside0.mk (below_step (by repeat (first | (with_reducible first | exact HB.out | apply below_alloc | apply pw_below_drewN | apply below_drew1) | exact HB.out)) hb); clear HO_5; clear HO_8; clear HB; have HO_5 := n0_; have HO_8 := n1_; have HB := n2_; clear n0_ n1_ n2_; (try clear hb); (try clear hb2); (try clear hk); (try clear hi)))
           go_ret
           exact ⟨by first | rfl | (simp [errW_none, errW_some] <;> rfl) | (simp only [← hji4]; first | rfl | (simp [errW_none, errW_some] <;> rfl)) | (simp [*, errW_none, errW_some] <;> rfl), by repeat (first | (with_reducible first | exact HB.out | apply below_alloc | apply pw_below_drewN | apply below_drew1) | exact HB.out)⟩
          ·
           rw [if_neg c55] at H
           have c55b0 : (t568 == 60) = false := beq_eq_false_iff_ne.mpr c55
           have c55b1 : (t568 != 60) = true := bne_iff_ne.mpr c55
           obtain rfl := Option.some.inj H
           go_wp2_with (first | ((with_reducible refine gate_callee (f := 25) rfl ?_); refine goesL_ (some 53) rfl rfl Try.func25 (by kernel_rfl) rfl #[.slice Ao12 t564.length co12] rfl (by (try simp only [List.map_toArray, List.map_cons, List.map_nil]); first | done | rfl | (simp only [List.length_drop, List.length_take]; rfl)) ?_; (with_reducible refine (turndownref06_Possible.calls kj10 _ _ t564 false _ ?side1 ?side2 A26.out).mono ?_); (case side1 => repeat (first | exact (Kd.R_reads' HO_5.out).2.2 | (with_reducible refine Kd.C_alloc ?_ _) | (with_reducible refine Kd.C_drewN ?_ _) | (with_reducible refine Kd.C_drew ?_))); (case side2 => exact (Kd.R_reads' HO_5.out).2.1); rintro e w' ⟨rfl, ⟨nd, rfl⟩⟩; refine ⟨_, rfl, ?_⟩; obtain ⟨Ao59, co59, eo59⟩ := Kd.R_slice HO_8.out; subst eo59))
           go_ret
           exact ⟨by first | rfl | (simp [errW_none, errW_some] <;> rfl) | (simp only [← hji4]; first | rfl | (simp [errW_none, errW_some] <;> rfl)) | (simp [*, errW_none, errW_some] <;> rfl), by repeat (first | (with_reducible first | exact HB.out | apply below_alloc | apply pw_below_drewN | apply below_drew1) | exact HB.out)⟩
         ·
          rw [if_neg c54] at H
          have c54b0 : ((t567.length : Int) == 0) = false := beq_eq_false_iff_ne.mpr c54
          have c54b1 : ((t567.length : Int) != 0) = true := bne_iff_ne.mpr c54
          have c54b2 : ¬ (t567 = []) := fun h_ => c54 (by rw [h_]; rfl)
          obtain rfl := Option.some.inj H
          go_wp2_with (first | ((with_reducible refine gate_callee (f := 25) rfl ?_); refine goesL_ (some 53) rfl rfl Try.func25 (by kernel_rfl) rfl #[.slice Ao12 t564.length co12] rfl (by (try simp only [List.map_toArray, List.map_cons, List.map_nil]); first | done | rfl | (simp only [List.length_drop, List.length_take]; rfl)) ?_; (with_reducible refine (turndownref06_Possible.calls kj10 _ _ t564 false _ ?side1 ?side2 A26.out).mono ?_); (case side1 => repeat (first | exact (Kd.R_reads' HO_5.out).2.2 | (with_reducible refine Kd.C_alloc ?_ _) | (with_reducible refine Kd.C_drewN ?_ _) | (with_reducible refine Kd.C_drew ?_))); (case side2 => exact (Kd.R_reads' HO_5.out).2.1); rintro e w' ⟨rfl, ⟨nd, rfl⟩⟩; refine ⟨_, rfl, ?_⟩; obtain ⟨Ao60, co60, eo60⟩ := Kd.R_slice HO_8.out; subst eo60))
          go_ret
          exact ⟨by first | rfl | (simp [errW_none, errW_some] <;> rfl) | (simp only [← hji4]; first | rfl | (simp [errW_none, errW_some] <;> rfl)) | (simp [*, errW_none, errW_some] <;> rfl), by repeat (first | (with_reducible first | exact HB.out | apply below_alloc | apply pw_below_drewN | apply below_drew1) | exact HB.out)⟩
    ·
     rw [if_neg c9] at H
     exact absurd H (by simp)
   ·
    rw [if_neg c8] at H
    exact absurd H (by simp)
def turndownlaw06_CodeDecodes.Pure : Prop := ∀ (l0 : List Int) (a1 : ByteArray), l0.length ≤ maxLen → l0.length * 8 ≤ 140737488351232 → (∀ x ∈ l0, (Lit.int .i64 x).wf = true) → a1.size ≤ 140737488351232 → ∃ k, turndownlaw06_CodeDecodes.f k l0 a1 = some true
theorem turndownlaw06_CodeDecodes.walk (P : turndownlaw06_CodeDecodes.Pure) (a0 : Option Addr) (len0 cap0 : Nat) (z0 : List Int) (a1 : ByteArray) (w : World) (w0 : (a0 = none ∧ len0 = 0 ∧ cap0 = 0 ∧ z0 = []) ∨ ∃ x, a0 = some x ∧ len0 ≤ cap0 ∧ cap0 ≤ maxLen ∧ z0.length = cap0 ∧ (∀ i, i < z0.length → w.cell? (x.add i) = some (.int .i64 (z0.getD i 0))) ∧ ∀ n ∈ z0, (Lit.int .i64 n).wf = true) (y0 : len0 * 8 ≤ 140737488351232) (w1 : a1.size ≤ 140737488351232) :
  Calls Try.prog 17 #[.slice a0 len0 cap0, .string a1] w fun e w' => e = .returned (.bool true) ∧ Below w.heap.size w w' := by
 obtain ⟨l0, rfl, hr0, hm0, hw0, hc0⟩ := ReadsInt.ofRowC w0
 obtain ⟨k, h⟩ := P l0 a1 hm0 y0 hw0 w1
 refine (turndownlaw06_CodeDecodes.calls k _ _ l0 a1 true w (Kd.C_of_reads (d := (0 : Int)) (h1 := fun _ => rfl) hr0) hc0 h).mono ?_
 rintro e w' ⟨rfl, hd⟩
 exact ⟨rfl, hd⟩
end Go.Proofs.Ytcpojohpmcnnhaa.PA

set_option linter.unusedVariables false
set_option linter.unusedSimpArgs false
namespace Go.Proofs.Ytcpojohpmcnnhaa.Pure
open Go.RowKit Go.Proofs.Ytcpojohpmcnnhaa.PA Go.Proofs.YtcpojohpmcnnhaaW.PrintWords Go.Proofs.YtcpojohpmcnnhaaW.PrintLast Go.Proofs.Ytcpojohpmcnnhaa.L
theorem dec_j1 {l : List Int} {s : ByteArray} (hl : l.length ≤ 70) (hs : s.size ≤ 65537) (b : Bool) (hb : b = true ↔ (checkI l = 2 ∨ 65536 < s.size ∨ bitsS s = false)) : Ev (fun k => turndownlaw06_CodeDecodes.j1 k l s (decR l s).1 (decR l s).2 b) true := by
  unfold decR
  by_cases hc : checkI l = 2 ∨ 65536 < s.size ∨ bitsS s = false
  · rw [if_pos hc]
    refine Ev.step (fun k => ?_) (Ev.bind (f := fun _ t => some t) awake_ev (Ev.now _))
    rw [turndownlaw06_CodeDecodes.j1, if_pos (hb.2 hc), if_pos (show ((([] : List Int).length : Nat) : Int) = 0 from rfl), if_pos rfl]
  · rw [if_neg hc]
    have hbf : ¬ b = true := fun h => hc (hb.1 h)
    have h4 : s.size ≤ 65536 := Nat.le_of_not_lt (fun h => hc (.inr (.inl h)))
    have h2 : checkI l ≠ 2 := fun h => hc (.inl h)
    rcases checkI_cases l with h | h | ⟨h, g1, g2, g3⟩
    · exact absurd h h2
    · rw [if_pos h]
      have hg : (lenB l && okB 0 32 l) = true := by
        refine Classical.byContradiction (fun h9 => h2 ?_)
        unfold checkI
        rw [if_neg h9]
      have hg2 := hg
      rw [Bool.and_eq_true] at hg2
      have hsum : ¬ sumI l ≤ 4294967296 := fun h9 => by
        unfold checkI at h
        rw [if_pos hg, if_neg (by omega)] at h
        cases h
      have hpos := refPossible_ev (l := l) (by omega) hg2.2
      rw [decide_eq_false hsum] at hpos
      refine Ev.step (f := fun k => (turndownref06_Possible.f k l).bind fun t574 => (if t574 = true then ((turndownref06_Decode.f k l s).bind fun bt576 => (if bt576.2 = true then ((turndownlaw06_ints.f k ([] : List Int) bt576.1).bind fun t580 => (if t580 = true then (if (60 : Int) = 0 then ((turndownlaw06_awake.f k).bind fun t581 => (some t581)) else (some false)) else (some false))) else (if ((([] : List Int).length : Nat) : Int) = 0 then (if (60 : Int) = 60 then ((turndownlaw06_awake.f k).bind fun t582 => (some t582)) else (some false)) else (some false)))) else (if ((([] : List Int).length : Nat) : Int) = 0 then (if (60 : Int) = 60 then ((turndownlaw06_awake.f k).bind fun t575 => (some t575)) else (some false)) else (some false)))) (fun k => ?_) ?_
      · rw [turndownlaw06_CodeDecodes.j1, if_neg hbf]
      · refine Ev.bind hpos ?_
        simp only [Bool.false_eq_true, if_false, if_true, List.length_nil]
        exact Ev.bind (f := fun _ t => some t) awake_ev (Ev.now _)
    · rw [if_neg (by rw [h]; decide)]
      have hpos := refPossible_ev (l := l) (by omega) g2
      rw [decide_eq_true g3] at hpos
      have hdec := refDecode_ev g1.1 g1.2 g2 g3 h4
      unfold resD at hdec
      cases hd : decD (wordN l) l.length s.data.toList with
      | some o =>
        rw [hd] at hdec
        have hol := decD_len hd
        rw [data_len] at hol
        refine Ev.step (f := fun k => (turndownref06_Possible.f k l).bind fun t574 => (if t574 = true then ((turndownref06_Decode.f k l s).bind fun bt576 => (if bt576.2 = true then ((turndownlaw06_ints.f k o bt576.1).bind fun t580 => (if t580 = true then (if (0 : Int) = 0 then ((turndownlaw06_awake.f k).bind fun t581 => (some t581)) else (some false)) else (some false))) else (if (o.length : Int) = 0 then (if (0 : Int) = 60 then ((turndownlaw06_awake.f k).bind fun t582 => (some t582)) else (some false)) else (some false)))) else (if (o.length : Int) = 0 then (if (0 : Int) = 60 then ((turndownlaw06_awake.f k).bind fun t575 => (some t575)) else (some false)) else (some false)))) (fun k => ?_) ?_
        · rw [turndownlaw06_CodeDecodes.j1, if_neg hbf]
        · refine Ev.bind hpos ?_
          simp only [if_true]
          refine Ev.bind hdec ?_
          simp only [if_true]
          refine Ev.bind (ints_ev (by omega)) ?_
          simp only [if_true]
          exact Ev.bind (f := fun _ t => some t) awake_ev (Ev.now _)
      | none =>
        rw [hd] at hdec
        refine Ev.step (f := fun k => (turndownref06_Possible.f k l).bind fun t574 => (if t574 = true then ((turndownref06_Decode.f k l s).bind fun bt576 => (if bt576.2 = true then ((turndownlaw06_ints.f k ([] : List Int) bt576.1).bind fun t580 => (if t580 = true then (if (60 : Int) = 0 then ((turndownlaw06_awake.f k).bind fun t581 => (some t581)) else (some false)) else (some false))) else (if ((([] : List Int).length : Nat) : Int) = 0 then (if (60 : Int) = 60 then ((turndownlaw06_awake.f k).bind fun t582 => (some t582)) else (some false)) else (some false)))) else (if ((([] : List Int).length : Nat) : Int) = 0 then (if (60 : Int) = 60 then ((turndownlaw06_awake.f k).bind fun t575 => (some t575)) else (some false)) else (some false)))) (fun k => ?_) ?_
        · rw [turndownlaw06_CodeDecodes.j1, if_neg hbf]
        · refine Ev.bind hpos ?_
          simp only [if_true]
          refine Ev.bind hdec ?_
          simp only [Bool.false_eq_true, if_false, if_true, List.length_nil]
          exact Ev.bind (f := fun _ t => some t) awake_ev (Ev.now _)
theorem dec_j0 {l : List Int} (hl : l.length ≤ 70) (a1 : ByteArray) (n : Nat) (hn : n ≤ a1.size) (hn2 : n ≤ 65537) : Ev (fun k => turndownlaw06_CodeDecodes.j0 k a1 l (n : Int)) true := by
  obtain ⟨s, hs⟩ : ∃ s, a1.extract 0 n = s := ⟨_, rfl⟩
  have hsl : s.size = n := by rw [← hs, ByteArray.size_extract]; omega
  have hdc : code_Decode.f l s = some (decR l s) := by unfold code_Decode.f; rw [if_pos ⟨by omega, by omega⟩]
  refine Ev.step (f := fun k => (turndownref06_Lengths.f k l).bind fun t571 => (if t571 = true then (if (s.size : Int) > 65536 then (turndownlaw06_CodeDecodes.j1 k l s (decR l s).1 (decR l s).2 true) else ((turndownref06_Bits.f k s).bind fun t572 => (turndownlaw06_CodeDecodes.j1 k l s (decR l s).1 (decR l s).2 (!t572)))) else (turndownlaw06_CodeDecodes.j1 k l s (decR l s).1 (decR l s).2 true))) (fun k => ?_) ?_
  · rw [turndownlaw06_CodeDecodes.j0, if_pos (by omega), if_pos (by omega), Int.toNat_natCast, hs, hdc, Option.bind_some]
  · refine Ev.bind (refLengths_ev (by omega)) ?_
    have hsw : (okB 0 32 l && lenB l) = (lenB l && okB 0 32 l) := Bool.and_comm _ _
    by_cases h1 : (lenB l && okB 0 32 l) = true
    · simp only [hsw, h1, if_true]
      have hne : checkI l ≠ 2 := by
        unfold checkI
        rw [if_pos h1]
        split <;> decide
      by_cases h2 : (s.size : Int) > 65536
      · simp only [if_pos h2]
        exact dec_j1 hl (by omega) true ⟨fun _ => .inr (.inl (by omega)), fun _ => rfl⟩
      · simp only [if_neg h2]
        refine Ev.bind (refBits_ev s (by omega)) ?_
        refine dec_j1 hl (by omega) _ ?_
        cases hb : bitsS s with
        | true =>
          refine ⟨fun h => absurd h (by decide), fun h => ?_⟩
          rcases h with h | h | h
          · exact absurd h hne
          · omega
          · cases h
        | false => exact ⟨fun _ => .inr (.inr rfl), fun _ => rfl⟩
    · simp only [hsw, if_neg h1]
      refine dec_j1 hl (by omega) _ ⟨fun _ => .inl ?_, fun _ => rfl⟩
      unfold checkI
      rw [if_neg h1]
theorem CodeDecodes : turndownlaw06_CodeDecodes.Pure := by
  intro l0 a1 _ _ _ _
  obtain ⟨l, hl⟩ : ∃ l, l0.take 70 = l := ⟨_, rfl⟩
  have hll : l.length ≤ 70 := by rw [← hl, List.length_take]; omega
  refine Ev.rounds ?_
  refine Ev.congr (f := fun k => if (a1.size : Int) > 65536 then (turndownlaw06_CodeDecodes.j0 k a1 l 65537) else (turndownlaw06_CodeDecodes.j0 k a1 l (mn (a1.size : Int) 2000))) (fun k => ?_) ?_
  · unfold turndownlaw06_CodeDecodes.f turndownlaw06_list.f
    rw [hl]; rfl
  by_cases h1 : (a1.size : Int) > 65536
  · simp only [if_pos h1]
    exact dec_j0 hll a1 65537 (by omega) (by omega)
  · simp only [if_neg h1]
    obtain ⟨n, hn⟩ : ∃ n : Nat, mn (a1.size : Int) 2000 = (n : Int) := ⟨min a1.size 2000, by unfold mn; split <;> omega⟩
    rw [hn]
    exact dec_j0 hll a1 n (by unfold mn at hn; split at hn <;> omega) (by unfold mn at hn; split at hn <;> omega)
end Go.Proofs.Ytcpojohpmcnnhaa.Pure

namespace Go.Proofs.YtcpojohpmcnnhaaW.PrintWords
open Go.ChangeShapes Go.WideShapes
theorem sized_ints {H : Type} {enc : TypeId × Value → H} {P : Program} {W : World} {base : Nat} {spare : Nat → Bool} {held : Bool} {t e : TypeId} {k : IntKind} {a : Option Addr} {len cap : Nat} {d : DataW H} {ps : List MemPlace} {ts : List TypeId} {ds : List (DataW H)} {j : Nat}
    (hsz : (DataW.weightsEach P ts ds).all (· ≤ reachBytes) = true) (ht : ts[j]? = some t) (hd : ds[j]? = some d) (hu : P.underlying t = some (.slice e)) (he : P.underlying e = some (.int k)) (hc : P.cellsOf e = 1) {B : Nat} (hB : P.bytesOf e = B)
    (h : DataW.Trod enc P W base spare held t (.slice a len cap) d ps) : len * B ≤ 140737488351232 := by
  obtain ⟨fuel, hf⟩ := h
  rcases open_ints hu he hc hf with ⟨hcs, _⟩ | ⟨x, l, c, zs, hcs, _, hl, _, hz, hx, _, _⟩
  · simp [Value.cells] at hcs
    obtain ⟨rfl, rfl, rfl⟩ := hcs
    simp
  · simp [Value.cells] at hcs
    obtain ⟨rfl, rfl, rfl⟩ := hcs
    obtain ⟨hx, _⟩ := Prod.mk.inj hx
    subst hx
    have z := sized_slice hsz ht hd hu
    rw [hB] at z
    have hl2 : len ≤ zs.length := by
      rw [hz]
      split
      · exact hl
      · exact Nat.le_refl _
    have h1 : (lits (H := H) k (zs.take len)).length + (lits (H := H) k (zs.drop len)).length = zs.length := by
      simp [lits]
      omega
    rw [h1] at z
    exact Nat.le_trans (Nat.mul_le_mul_right _ hl2) z
end Go.Proofs.YtcpojohpmcnnhaaW.PrintWords

namespace Go.Proofs.Ytcpojohpmcnnhaa.codeDecodes
open Go.ChangeShapes Go.WideShapes Go.ChangeAt Go.RowKit
open Go.ChangeMaps (open_string shut_string)
set_option linter.unusedVariables false
theorem own : ownKnob Try.prog.godebug = none := by kernel_rfl
theorem laidOut : laidOutB Try.prog = true := by kernel_rfl
def IsRow (k : IntKind) (w : World) (a : Option Addr) (len cap : Nat) (zs : List Int) : Prop :=
 (a = none ∧ len = 0 ∧ cap = 0 ∧ zs = []) ∨
 ∃ x, a = some x ∧ len ≤ cap ∧ cap ≤ maxLen ∧ zs.length = cap ∧ (∀ i, i < zs.length → w.cell? (x.add i) = some (.int k (zs.getD i 0))) ∧ ∀ n ∈ zs, (Lit.int k n).wf = true
set_option maxRecDepth 100000 in
theorem lifted (os : Os) (started : os.Started) (H : Type) (enc : TypeId × Value → H) :
  ReturnsInHanded {} Try.checked os 17 .any (Rows.codeDecodesSpec.pre6 enc Try.prog Try.f17 Rows.codeDecodesRow.domain false) (Rows.codeDecodesSpec.post enc Try.prog Try.f17 false true false false) := by
 refine returnsInHanded_of_change_sized (C := Try.checked) own started (by kernel_rfl) Try.func17
  (ChangeSpec.witness6 (enc := enc) (C := Try.checked) false ⟨#[], #[.slice none 0 0, .string ByteArray.empty], []⟩ 8 (by kernel_rfl) (by kernel_rfl) (by kernel_rfl) (by kernel_rfl)) ?_
 intro W base args ds gs before hval0 hW hcnd hsz0 _
 have hsz : (DataW.weightsEach Try.prog (Try.f17.params.toList ++ Rows.codeDecodesSpec.plain.varTypes Try.prog) (ds ++ gs)).all (· ≤ reachBytes) = true := hsz0
 have hval : ∀ (j : Nat) t v, Try.f17.params[j]? = some t → args[j]? = some v → Value.okWide Try.prog W .any base t v := hval0
 have hW' := hW
 obtain ⟨p, q, hA0, hV, rfl, hfz, hnd⟩ := hW
 have hA : DataW.TrodAll enc Try.prog W 0 (fun _ => true) true Try.f17.params.toList args.toList ds p := hA0
 rw [Try.params17] at hA hval hsz
 obtain ⟨v0, vs0, d0, ds0, p0, q0, hargs, rfl, rfl, h0, r0⟩ := trodAll_cons hA
 obtain ⟨v1, vs1, d1, ds1, p1, q1, rfl, rfl, rfl, h1, r1⟩ := trodAll_cons r0
 obtain ⟨rfl, rfl, rfl⟩ := trodAll_nil r1
 obtain rfl : args = #[v0, v1] := by cases args; simp_all
 obtain ⟨rfl, rfl⟩ := trodVars_none hV
 obtain ⟨a0, len0, cap0, rfl⟩ := okWide_slice Try.underlying22 (hval 0 22 v0 rfl rfl)
 have k0 := h0
 have lt0 : ∀ x ∈ p0, x.block < W.heap.size := by obtain ⟨m, hm⟩ := k0; exact DataW.trod_lt m _ _ _ hm
 obtain ⟨z0, w0⟩ : ∃ zs, IsRow .i64 W a0 len0 cap0 zs := by
  obtain ⟨fuel, hf⟩ := h0
  rcases open_ints Try.underlying22 Try.underlying3 (by kernel_rfl) hf with ⟨hcs, _⟩ | ⟨x, l, c, zs, hcs, _, hl, hm, hz, _, hcell, hwz⟩
  ·
   simp [Value.cells] at hcs
   obtain ⟨rfl, rfl, rfl⟩ := hcs
   exact ⟨[], .inl ⟨rfl, rfl, rfl, rfl⟩⟩
  ·
   simp [Value.cells] at hcs
   obtain ⟨rfl, rfl, rfl⟩ := hcs
   exact ⟨zs, .inr ⟨_, rfl, hl, hm, by simpa using hz, hcell, hwz⟩⟩
 have y0 : len0 * 8 ≤ 140737488351232 := Go.Proofs.YtcpojohpmcnnhaaW.PrintWords.sized_ints hsz (j := 0) (t := 22) rfl rfl Try.underlying22 Try.underlying3 (by kernel_rfl) (by kernel_rfl) h0
 obtain ⟨a1, rfl, rfl, rfl, y1⟩ := open_string Try.underlying9 (hval 1 9 v1 rfl rfl) h1
 have w1 : a1.size ≤ 140737488351232 := by
  have z := sized_string hsz (j := 1) (t := 9) rfl rfl
  rw [Array.length_toList] at z
  exact z
 clear hA0 hval0 hsz0 hsz
 refine (PA.turndownlaw06_CodeDecodes.walk Pure.CodeDecodes a0 len0 cap0 z0 a1 W w0 y0 w1).mono fun e W' ⟨he, bel⟩ => ?_
 subst he
 exact ⟨_, rfl, _, _, _, [], _, [], hW', trodAll_mk1 (shut_bool Try.underlying4 _), (trodAll_cons_mk (Below.trod laidOut (by kernel_rfl) (of_decide_eq_true (by kernel_rfl)) k0 bel lt0) (trodAll_cons_mk (shut_string Try.underlying9 y1) trodAll_mk0)), rfl, bel.frame _, fun h => by cases h⟩
theorem over : Rows.codeDecodesRow.holds Try.pinned (OpenSpec.ofChange Rows.codeDecodesSpec) :=
 OpenClaim.holds_of_wide 17 Try.f17 rfl rfl rfl rfl rfl rfl rfl ⟨rfl, rfl, rfl, rfl, rfl⟩ rfl rfl rfl rfl rfl (by kernel_rfl) Try.func17 (by kernel_rfl)
  (of_decide_eq_true (by kernel_rfl)) (by unfold Func.isWrapper; first | (rw [if_pos (by decide +kernel)]; kernel_rfl) | (rw [if_neg (by decide +kernel)]; exact ⟨rfl, rfl⟩))
  (fun os started H enc _ => lifted os started H enc)
theorem proved : Rows.CodeDecodesSaid := over
end Go.Proofs.Ytcpojohpmcnnhaa.codeDecodes
namespace Go.Proofs.Ytcpojohpmcnnhaa
theorem codeDecodes_holds : Rows.CodeDecodesSaid := codeDecodes.proved
end Go.Proofs.Ytcpojohpmcnnhaa
