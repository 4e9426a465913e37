/- What the statements of this seat lean on: the functions that they reach, walked. -/
import Derived.Test.YtakbijpcfnipoaaRows
import Derived.WalkKit
import Derived.ProofKit
import Derived.OpenShut
import Derived.ShutString
import Derived.ChangeOld
import Derived.Below
import Derived.SizedLaws
import Derived.Deep.Slices
import Derived.Deep.Strs
import Derived.Lib.SmallJoins
import Derived.Test.YtakbijpcfnipoaaZg10
set_option linter.unusedSimpArgs false
set_option linter.unusedVariables false

set_option linter.unusedVariables false
set_option linter.unusedSimpArgs false
namespace Go.Proofs.Ytakbijpcfnipoaa.L
open Go.RowKit Go.Proofs.YtakbijpcfnipoaaW.PrintWords Go.Proofs.YtakbijpcfnipoaaW.PrintLast Go.Proofs.YtakbijpcfnipoaaW.PrintMore
open Go.Proofs.Ytakbijpcfnipoaa.PA Go.Proofs.Ytakbijpcfnipoaa.A Go.Proofs.Ytakbijpcfnipoaa.Lf
theorem run_len (st : List Int → Int → List Int) (s c : List Int) : (runL st s c).length = c.length := by rw [← outs_pth]; unfold outs; simp
theorem run_rows {k : Nat} {st : List Int → Int → List Int} (hst : ∀ s f, Pos k s → Fl f → Pos k (st s f)) {s c : List Int} (hs : Pos k s) (hc : Fls c) : ∀ r ∈ runL st s c, Pos k r := by
  rw [← outs_pth]
  unfold outs
  intro r hr
  obtain ⟨i, _, rfl⟩ := List.mem_map.1 hr
  exact run_pos hst hs hc _
set_option maxHeartbeats 16000000 in
set_option maxRecDepth 100000 in
theorem serves_no (A0 : Option Addr) (c0 : Nat) (l0 : List Int) (A1 : Option Addr) (c1 : Nat) (l1 : List Int) (w : World) (h0 : Kd.C (Kd.int .i64) w A0 l0.length l0) (hc0 : l0.length ≤ c0) (h1 : Kd.C (Kd.int .i64) w A1 l1.length l1) (hc1 : l1.length ≤ c1) {s c : List Int} (hs : l0.take 41 = s) (hc : l1.take 41 = c) (hh : hallB s c = false) :
    Calls Try.prog 12 #[.slice A0 l0.length c0, .slice A1 l1.length c1] w fun e w' => e = .returned (.bool true) ∧ Below w.heap.size w w' := by
  have hsl : s.length ≤ 41 := by rw [← hs, List.length_take]; omega
  have hcl : c.length ≤ 41 := by rw [← hc, List.length_take]; omega
  have HE0 : Hid (Env w w [(A0, c0, l0), (A1, c1, l1)] []) := Lib.hid (((Env.start w).addI h1 hc1).addI h0 hc0)
  have HS := Lib.hid hs
  have HC := Lib.hid hc
  have HF1 : Hid (lifts_Careful.f s c = some ([], 0, 2)) := Lib.hid (by unfold lifts_Careful.f; rw [hh]; rfl)
  have HF2 : Hid (lifts_Nearest.f s c = some ([], 0, 2)) := Lib.hid (by unfold lifts_Nearest.f; rw [hh]; rfl)
  obtain ⟨bp, hbp⟩ : ∃ b, posB s = b := ⟨_, rfl⟩
  obtain ⟨bc, hbc⟩ : ∃ b, callB c = b := ⟨_, rfl⟩
  have hpc : (bp && bc) = false := by rw [← hbp, ← hbc]; exact hh
  have HBP := Lib.hid hbp
  have HBC := Lib.hid hbc
  clear h0 h1 hs hc hh hc0 hc1 hbp hbc
  cases bp with
  | true =>
    obtain rfl : bc = false := by simpa using hpc
    clear hpc
    go_enter Try.func12, Try.ntmps12
    go_upto_region 2 with (first | (go_at_call 14; (with_reducible refine (list_E HE0.out (A := A0) (c := c0) (l := l0) (by simp) HS.out).mono ?_); rintro e w1 ⟨As, cs, rfl, hE1⟩) | (go_at_call 14; (with_reducible refine (list_E hE1 (A := A1) (c := c1) (l := l1) (by simp) HC.out).mono ?_); rintro e w2 ⟨Ac, cc, rfl, hE2⟩))
    have HE2 := Lib.hid hE2
    clear hE1 hE2
    go_upto_region 3 with (go_at_call 34; (with_reducible refine (careful_E HE2.out (A0 := As) (c0 := cs) (s := s) (A1 := Ac) (c1 := cc) (c := c) (by simp) (by simp) HF1.out).mono ?_); rintro e w3 ⟨Aa, ca, rfl, hE3⟩)
    have HE3 := Lib.hid hE3
    clear hE3
    go_upto_region 4 with (go_at_call 42; (with_reducible refine (nearest_E HE3.out (A0 := As) (c0 := cs) (s := s) (A1 := Ac) (c1 := cc) (c := c) (by simp) (by simp) HF2.out).mono ?_); rintro e w4 ⟨Ab, cb, rfl, hE4⟩)
    have HE4 := Lib.hid hE4
    clear hE4
    go_wp2_with (first | (go_at_call 17; (with_reducible refine (positions_E HE4.out (A0 := As) (c0 := cs) (s := s) (by simp) (by omega) HBP.out).mono ?_); rintro e w5 ⟨rfl, hE5⟩) | (go_at_call 18; (with_reducible refine (calls_E hE5 (A0 := Ac) (c0 := cc) (s := c) (by simp) (by omega) HBC.out).mono ?_); rintro e w6 ⟨rfl, hE6⟩) | (go_at_call 19; (with_reducible refine (awake_E hE6).mono ?_); rintro e w7 ⟨rfl, hE7⟩))
    go_ret
    exact ⟨rfl, hE7.bel⟩
  | false =>
    clear hpc
    go_enter Try.func12, Try.ntmps12
    go_upto_region 2 with (first | (go_at_call 14; (with_reducible refine (list_E HE0.out (A := A0) (c := c0) (l := l0) (by simp) HS.out).mono ?_); rintro e w1 ⟨As, cs, rfl, hE1⟩) | (go_at_call 14; (with_reducible refine (list_E hE1 (A := A1) (c := c1) (l := l1) (by simp) HC.out).mono ?_); rintro e w2 ⟨Ac, cc, rfl, hE2⟩))
    have HE2 := Lib.hid hE2
    clear hE1 hE2
    go_upto_region 3 with (go_at_call 34; (with_reducible refine (careful_E HE2.out (A0 := As) (c0 := cs) (s := s) (A1 := Ac) (c1 := cc) (c := c) (by simp) (by simp) HF1.out).mono ?_); rintro e w3 ⟨Aa, ca, rfl, hE3⟩)
    have HE3 := Lib.hid hE3
    clear hE3
    go_upto_region 4 with (go_at_call 42; (with_reducible refine (nearest_E HE3.out (A0 := As) (c0 := cs) (s := s) (A1 := Ac) (c1 := cc) (c := c) (by simp) (by simp) HF2.out).mono ?_); rintro e w4 ⟨Ab, cb, rfl, hE4⟩)
    have HE4 := Lib.hid hE4
    clear hE4
    go_wp2_with (first | (go_at_call 17; (with_reducible refine (positions_E HE4.out (A0 := As) (c0 := cs) (s := s) (by simp) (by omega) HBP.out).mono ?_); rintro e w5 ⟨rfl, hE5⟩) | (go_at_call 19; (with_reducible refine (awake_E hE5).mono ?_); rintro e w7 ⟨rfl, hE7⟩))
    go_ret
    exact ⟨rfl, hE7.bel⟩
set_option maxHeartbeats 16000000 in
set_option maxRecDepth 100000 in
theorem serves_yes (A0 : Option Addr) (c0 : Nat) (l0 : List Int) (A1 : Option Addr) (c1 : Nat) (l1 : List Int) (w : World) (h0 : Kd.C (Kd.int .i64) w A0 l0.length l0) (hc0 : l0.length ≤ c0) (h1 : Kd.C (Kd.int .i64) w A1 l1.length l1) (hc1 : l1.length ≤ c1) {s c : List Int} (hs : l0.take 41 = s) (hc : l1.take 41 = c) (hh : hallB s c = true) :
    Calls Try.prog 12 #[.slice A0 l0.length c0, .slice A1 l1.length c1] w fun e w' => e = .returned (.bool true) ∧ Below w.heap.size w w' := by
  have hsl : s.length ≤ 41 := by rw [← hs, List.length_take]; omega
  have hcl : c.length ≤ 41 := by rw [← hc, List.length_take]; omega
  have HE0 : Hid (Env w w [(A0, c0, l0), (A1, c1, l1)] []) := Lib.hid (((Env.start w).addI h1 hc1).addI h0 hc0)
  have HS := Lib.hid hs
  have HC := Lib.hid hc
  have HHH := Lib.hid hh
  obtain ⟨hp, hcb⟩ : posB s = true ∧ callB c = true := by simpa [hallB] using hh
  obtain ⟨hk1, hk3, hps⟩ := posB_iff.1 hp
  obtain ⟨h40, hfl⟩ := callB_iff.1 hcb
  have HBP := Lib.hid hp
  have HBC := Lib.hid hcb
  have HPS := Lib.hid hps
  have hrx := run_rows (st := Lf.serve) (fun s' f hs hf => (serve_pos hk1 hk3 hs hf.1 hf.2).1) hps hfl
  have hry := run_rows (st := near) (fun s' f hs hf => (near_pos hk1 hs hf).1) hps hfl
  have HLX := Lib.hid (run_len Lf.serve s c)
  have HLY := Lib.hid (run_len near s c)
  have HF1 : Hid (lifts_Careful.f s c = some (runL Lf.serve s c, cost s (runL Lf.serve s c), 0)) := Lib.hid (by unfold lifts_Careful.f; rw [hh]; rfl)
  have HF2 : Hid (lifts_Nearest.f s c = some (runL near s c, cost s (runL near s c), 0)) := Lib.hid (by unfold lifts_Nearest.f; rw [hh]; rfl)
  have HR1 : Hid (∀ (W : World) (I : RI) (T : RT), Env w W I T → ∀ A0 c0 A1 c1, (A0, c0, s) ∈ I → (A1, c1, c) ∈ I → Calls Try.prog 41 #[.slice A0 s.length c0, .slice A1 c.length c1] W fun e w' => ∃ A' c', e = .returned (.slice A' (runL Lf.serve s c).length c') ∧ Env w w' I ((A', c', runL Lf.serve s c) :: T)) := Lib.hid (fun W I T h A0 c0 A1 c1 m0 m1 => refCareful_E h m0 m1 hh)
  have HR2 : Hid (∀ (W : World) (I : RI) (T : RT), Env w W I T → ∀ A0 c0 A1 c1, (A0, c0, s) ∈ I → (A1, c1, c) ∈ I → Calls Try.prog 43 #[.slice A0 s.length c0, .slice A1 c.length c1] W fun e w' => ∃ A' c', e = .returned (.slice A' (runL near s c).length c') ∧ Env w w' I ((A', c', runL near s c) :: T)) := Lib.hid (fun W I T h A0 c0 A1 c1 m0 m1 => refNearest_E h m0 m1 hh)
  obtain ⟨X, hX⟩ : ∃ X, runL Lf.serve s c = X := ⟨_, rfl⟩
  obtain ⟨Y, hY⟩ : ∃ X, runL near s c = X := ⟨_, rfl⟩
  obtain ⟨q, hq⟩ : ∃ q, cost s X = q := ⟨_, rfl⟩
  obtain ⟨p, hpp⟩ : ∃ q, cost s Y = q := ⟨_, rfl⟩
  rw [hX] at hrx HLX HR1
  rw [hY] at hry HLY HR2
  rw [hX, hq] at HF1
  rw [hY, hpp] at HF2
  have HRX := Lib.hid hrx
  have HRY := Lib.hid hry
  have HRX2 : Hid (∀ r ∈ X, r.length ≤ 1000) := Lib.hid (fun r hr => by rw [(hrx r hr).len]; omega)
  have HRY2 : Hid (∀ r ∈ Y, r.length ≤ 1000) := Lib.hid (fun r hr => by rw [(hry r hr).len]; omega)
  have HQ := Lib.hid hq
  have HP := Lib.hid hpp
  have hxl : X.length ≤ 41 := by rw [HLX.out]; omega
  have hyl : Y.length ≤ 41 := by rw [HLY.out]; omega
  clear h0 h1 hs hc hh hc0 hc1 hp hcb hps h40 hfl hrx hry hX hY hq hpp
  go_enter Try.func12, Try.ntmps12
  go_upto_region 2 with (first | (go_at_call 14; (with_reducible refine (list_E HE0.out (A := A0) (c := c0) (l := l0) (by simp) HS.out).mono ?_); rintro e w1 ⟨As, cs, rfl, hE1⟩) | (go_at_call 14; (with_reducible refine (list_E hE1 (A := A1) (c := c1) (l := l1) (by simp) HC.out).mono ?_); rintro e w2 ⟨Ac, cc, rfl, hE2⟩))
  have HE2 := Lib.hid hE2
  clear hE1 hE2
  go_upto_region 3 with (go_at_call 34; (with_reducible refine (careful_E HE2.out (A0 := As) (c0 := cs) (s := s) (A1 := Ac) (c1 := cc) (c := c) (by simp) (by simp) HF1.out).mono ?_); rintro e w3 ⟨Aa, ca, rfl, hE3⟩)
  have HE3 := Lib.hid hE3
  clear hE3
  go_upto_region 4 with (go_at_call 42; (with_reducible refine (nearest_E HE3.out (A0 := As) (c0 := cs) (s := s) (A1 := Ac) (c1 := cc) (c := c) (by simp) (by simp) HF2.out).mono ?_); rintro e w4 ⟨Ab, cb, rfl, hE4⟩)
  have HE4 := Lib.hid hE4
  clear hE4
  go_upto_region 6 with (first | (go_at_call 17; (with_reducible refine (positions_E HE4.out (A0 := As) (c0 := cs) (s := s) (by simp) (by omega) HBP.out).mono ?_); rintro e w5 ⟨rfl, hE5⟩) | (go_at_call 18; (with_reducible refine (calls_E hE5 (A0 := Ac) (c0 := cc) (s := c) (by simp) (by omega) HBC.out).mono ?_); rintro e w6 ⟨rfl, hE6⟩))
  have HE6 := Lib.hid hE6
  clear hE5 hE6
  go_upto_region 7 with (first | (go_at_call 41; (with_reducible refine (HR1.out _ _ _ HE6.out As cs Ac cc (by simp) (by simp)).mono ?_); rintro e w7 ⟨Ax, cx, rfl, hE7⟩) | (go_at_call 43; (with_reducible refine (HR2.out _ _ _ hE7 As cs Ac cc (by simp) (by simp)).mono ?_); rintro e w8 ⟨Ay, cy, rfl, hE8⟩))
  have HE8 := Lib.hid hE8
  clear hE7 hE8
  go_wp2_with (first | (go_at_call 39; (with_reducible refine (same_E HE8.out (A0 := Aa) (c0 := ca) (a := X) (A1 := Ax) (c1 := cx) (b := X) (by simp) (by simp) (by omega) HRX2.out (r := true) (by simp)).mono ?_); rintro e w9 ⟨rfl, hE9⟩) | (go_at_call 21; (with_reducible refine (refCost_E hE9 (A0 := As) (c0 := cs) (s := s) (A1 := Ax) (c1 := cx) (l := X) (by simp) (by simp) hk3 HPS.out (by omega) HRX.out HQ.out).mono ?_); rintro e w10 ⟨rfl, hE10⟩) | (go_at_call 39; (with_reducible refine (same_E hE10 (A0 := Ab) (c0 := cb) (a := Y) (A1 := Ay) (c1 := cy) (b := Y) (by simp) (by simp) (by omega) HRY2.out (r := true) (by simp)).mono ?_); rintro e w11 ⟨rfl, hE11⟩) | (go_at_call 21; (with_reducible refine (refCost_E hE11 (A0 := As) (c0 := cs) (s := s) (A1 := Ay) (c1 := cy) (l := Y) (by simp) (by simp) hk3 HPS.out (by omega) HRY.out HP.out).mono ?_); rintro e w12 ⟨rfl, hE12⟩) | (go_at_call 19; (with_reducible refine (awake_E hE12).mono ?_); rintro e w13 ⟨rfl, hE13⟩))
  go_ret
  exact ⟨rfl, hE13.bel⟩
theorem serves_c (A0 : Option Addr) (c0 : Nat) (l0 : List Int) (A1 : Option Addr) (c1 : Nat) (l1 : List Int) (w : World) (h0 : Kd.C (Kd.int .i64) w A0 l0.length l0) (hc0 : l0.length ≤ c0) (h1 : Kd.C (Kd.int .i64) w A1 l1.length l1) (hc1 : l1.length ≤ c1) :
    Calls Try.prog 12 #[.slice A0 l0.length c0, .slice A1 l1.length c1] w fun e w' => e = .returned (.bool true) ∧ Below w.heap.size w w' := by
  by_cases hh : hallB (l0.take 41) (l1.take 41) = true
  · exact serves_yes A0 c0 l0 A1 c1 l1 w h0 hc0 h1 hc1 rfl rfl hh
  · exact serves_no A0 c0 l0 A1 c1 l1 w h0 hc0 h1 hc1 rfl rfl (Bool.eq_false_iff.2 hh)
end Go.Proofs.Ytakbijpcfnipoaa.L

set_option linter.unusedVariables false
set_option linter.unusedSimpArgs false
namespace Go.Proofs.Ytakbijpcfnipoaa.L
open Go.RowKit Go.Proofs.YtakbijpcfnipoaaW.PrintWords Go.Proofs.YtakbijpcfnipoaaW.PrintLast Go.Proofs.YtakbijpcfnipoaaW.PrintMore
open Go.Proofs.Ytakbijpcfnipoaa.PA Go.Proofs.Ytakbijpcfnipoaa.A Go.Proofs.Ytakbijpcfnipoaa.Lf
theorem refForesee_E {w W : World} {I : RI} {T : RT} (h : Env w W I T) {A0 A1 : Option Addr} {c0 c1 : Nat} {s c : List Int} (m0 : (A0, c0, s) ∈ I) (m1 : (A1, c1, c) ∈ I) (hh : hallB s c = true) :
    Calls Try.prog 38 #[.slice A0 s.length c0, .slice A1 c.length c1] W fun e w' => ∃ A' c', e = .returned (.slice A' (fsF s.length (dist s) s c).length c') ∧ Env w w' I ((A', c', fsF s.length (dist s) s c) :: T) := by
  obtain ⟨hp, hcb⟩ : posB s = true ∧ callB c = true := by simpa [hallB] using hh
  obtain ⟨hk1, hk3, hs⟩ := posB_iff.1 hp
  obtain ⟨h40, hfl⟩ := callB_iff.1 hcb
  have hlen : (fsF s.length (dist s) s c).length = c.length := fsF_len _ _ _ _
  refine (refForesee_c A0 c0 s A1 c1 c W (h.is _ m0).1 (h.is _ m0).2 (h.is _ m1).1 hk1 hk3 hs hfl h40).mono ?_
  rintro e w' ⟨A', c', rfl, g1, g2, hb⟩
  rw [← hlen] at g1 g2 ⊢
  exact ⟨A', c', rfl, (h.below hb).addT g2 g1⟩
theorem fs_rows {k : Nat} (hk1 : 1 ≤ k) (hk3 : k ≤ 3) {s c : List Int} (hs : Pos k s) (hc : Fls c) (h40 : c.length ≤ 40) : ∀ r ∈ fsF k (dist s) s c, Pos k r := by
  rw [← outs_fs]
  unfold outs
  intro r hr
  obtain ⟨i, hi, rfl⟩ := List.mem_map.1 hr
  rw [List.mem_range] at hi
  exact fsP_pos hk1 hk3 hs hc h40 (i + 1) hi
set_option maxHeartbeats 16000000 in
set_option maxRecDepth 100000 in
theorem foresees_no (A0 : Option Addr) (c0 : Nat) (l0 : List Int) (A1 : Option Addr) (c1 : Nat) (l1 : List Int) (w : World) (h0 : Kd.C (Kd.int .i64) w A0 l0.length l0) (hc0 : l0.length ≤ c0) (h1 : Kd.C (Kd.int .i64) w A1 l1.length l1) (hc1 : l1.length ≤ c1) {s c : List Int} (hs : l0.take 41 = s) (hc : l1.take 41 = c) (hh : hallB s c = false) :
    Calls Try.prog 10 #[.slice A0 l0.length c0, .slice A1 l1.length c1] w fun e w' => e = .returned (.bool true) ∧ Below w.heap.size w w' := by
  have hsl : s.length ≤ 41 := by rw [← hs, List.length_take]; omega
  have hcl : c.length ≤ 41 := by rw [← hc, List.length_take]; omega
  have HE0 : Hid (Env w w [(A0, c0, l0), (A1, c1, l1)] []) := Lib.hid (((Env.start w).addI h1 hc1).addI h0 hc0)
  have HS := Lib.hid hs
  have HC := Lib.hid hc
  have HF1 : Hid (lifts_Foresee.f s c = some ([], 0, 2)) := Lib.hid (by unfold lifts_Foresee.f; rw [hh]; rfl)
  obtain ⟨bp, hbp⟩ : ∃ b, posB s = b := ⟨_, rfl⟩
  obtain ⟨bc, hbc⟩ : ∃ b, callB c = b := ⟨_, rfl⟩
  have hpc : (bp && bc) = false := by rw [← hbp, ← hbc]; exact hh
  have HBP := Lib.hid hbp
  have HBC := Lib.hid hbc
  clear h0 h1 hs hc hh hc0 hc1 hbp hbc
  cases bp with
  | true =>
    obtain rfl : bc = false := by simpa using hpc
    clear hpc
    go_enter Try.func10, Try.ntmps10
    go_upto_region 2 with (first | (go_at_call 14; (with_reducible refine (list_E HE0.out (A := A0) (c := c0) (l := l0) (by simp) HS.out).mono ?_); rintro e w1 ⟨As, cs, rfl, hE1⟩) | (go_at_call 14; (with_reducible refine (list_E hE1 (A := A1) (c := c1) (l := l1) (by simp) HC.out).mono ?_); rintro e w2 ⟨Ac, cc, rfl, hE2⟩))
    have HE2 := Lib.hid hE2
    clear hE1 hE2
    go_upto_region 3 with (go_at_call 37; (with_reducible refine (foresee_E HE2.out (A0 := As) (c0 := cs) (s := s) (A1 := Ac) (c1 := cc) (c := c) (by simp) (by simp) HF1.out).mono ?_); rintro e w3 ⟨Aa, ca, rfl, hE3⟩)
    have HE3 := Lib.hid hE3
    clear hE3
    go_wp2_with (first | (go_at_call 17; (with_reducible refine (positions_E HE3.out (A0 := As) (c0 := cs) (s := s) (by simp) (by omega) HBP.out).mono ?_); rintro e w5 ⟨rfl, hE5⟩) | (go_at_call 18; (with_reducible refine (calls_E hE5 (A0 := Ac) (c0 := cc) (s := c) (by simp) (by omega) HBC.out).mono ?_); rintro e w6 ⟨rfl, hE6⟩) | (go_at_call 19; (with_reducible refine (awake_E hE6).mono ?_); rintro e w7 ⟨rfl, hE7⟩))
    go_ret
    exact ⟨rfl, hE7.bel⟩
  | false =>
    clear hpc
    go_enter Try.func10, Try.ntmps10
    go_upto_region 2 with (first | (go_at_call 14; (with_reducible refine (list_E HE0.out (A := A0) (c := c0) (l := l0) (by simp) HS.out).mono ?_); rintro e w1 ⟨As, cs, rfl, hE1⟩) | (go_at_call 14; (with_reducible refine (list_E hE1 (A := A1) (c := c1) (l := l1) (by simp) HC.out).mono ?_); rintro e w2 ⟨Ac, cc, rfl, hE2⟩))
    have HE2 := Lib.hid hE2
    clear hE1 hE2
    go_upto_region 3 with (go_at_call 37; (with_reducible refine (foresee_E HE2.out (A0 := As) (c0 := cs) (s := s) (A1 := Ac) (c1 := cc) (c := c) (by simp) (by simp) HF1.out).mono ?_); rintro e w3 ⟨Aa, ca, rfl, hE3⟩)
    have HE3 := Lib.hid hE3
    clear hE3
    go_wp2_with (first | (go_at_call 17; (with_reducible refine (positions_E HE3.out (A0 := As) (c0 := cs) (s := s) (by simp) (by omega) HBP.out).mono ?_); rintro e w5 ⟨rfl, hE5⟩) | (go_at_call 19; (with_reducible refine (awake_E hE5).mono ?_); rintro e w7 ⟨rfl, hE7⟩))
    go_ret
    exact ⟨rfl, hE7.bel⟩
set_option maxHeartbeats 16000000 in
set_option maxRecDepth 100000 in
theorem foresees_yes (A0 : Option Addr) (c0 : Nat) (l0 : List Int) (A1 : Option Addr) (c1 : Nat) (l1 : List Int) (w : World) (h0 : Kd.C (Kd.int .i64) w A0 l0.length l0) (hc0 : l0.length ≤ c0) (h1 : Kd.C (Kd.int .i64) w A1 l1.length l1) (hc1 : l1.length ≤ c1) {s c : List Int} (hs : l0.take 41 = s) (hc : l1.take 41 = c) (hh : hallB s c = true) :
    Calls Try.prog 10 #[.slice A0 l0.length c0, .slice A1 l1.length c1] w fun e w' => e = .returned (.bool true) ∧ Below w.heap.size w w' := by
  have hsl : s.length ≤ 41 := by rw [← hs, List.length_take]; omega
  have hcl : c.length ≤ 41 := by rw [← hc, List.length_take]; omega
  have HE0 : Hid (Env w w [(A0, c0, l0), (A1, c1, l1)] []) := Lib.hid (((Env.start w).addI h1 hc1).addI h0 hc0)
  have HS := Lib.hid hs
  have HC := Lib.hid hc
  obtain ⟨hp, hcb⟩ : posB s = true ∧ callB c = true := by simpa [hallB] using hh
  obtain ⟨hk1, hk3, hps⟩ := posB_iff.1 hp
  obtain ⟨h40, hfl⟩ := callB_iff.1 hcb
  have HBP := Lib.hid hp
  have HBC := Lib.hid hcb
  have HPS := Lib.hid hps
  have hrx := fs_rows hk1 hk3 hps hfl h40
  have HLX := Lib.hid (fsF_len s.length c (dist s) s)
  have HF1 : Hid (lifts_Foresee.f s c = some (fsF s.length (dist s) s c, cost s (fsF s.length (dist s) s c), 0)) := Lib.hid (by unfold lifts_Foresee.f; rw [hh]; rfl)
  have HR1 : Hid (∀ (W : World) (I : RI) (T : RT), Env w W I T → ∀ A0 c0 A1 c1, (A0, c0, s) ∈ I → (A1, c1, c) ∈ I → Calls Try.prog 38 #[.slice A0 s.length c0, .slice A1 c.length c1] W fun e w' => ∃ A' c', e = .returned (.slice A' (fsF s.length (dist s) s c).length c') ∧ Env w w' I ((A', c', fsF s.length (dist s) s c) :: T)) := Lib.hid (fun W I T h A0 c0 A1 c1 m0 m1 => refForesee_E h m0 m1 hh)
  obtain ⟨X, hX⟩ : ∃ X, fsF s.length (dist s) s c = X := ⟨_, rfl⟩
  obtain ⟨q, hq⟩ : ∃ q, cost s X = q := ⟨_, rfl⟩
  rw [hX] at hrx HLX HR1
  rw [hX, hq] at HF1
  have HRX := Lib.hid hrx
  have HRX2 : Hid (∀ r ∈ X, r.length ≤ 1000) := Lib.hid (fun r hr => by rw [(hrx r hr).len]; omega)
  have HQ := Lib.hid hq
  have hxl : X.length ≤ 41 := by rw [HLX.out]; omega
  clear h0 h1 hs hc hh hc0 hc1 hp hcb hps h40 hfl hrx hX hq
  go_enter Try.func10, Try.ntmps10
  go_upto_region 2 with (first | (go_at_call 14; (with_reducible refine (list_E HE0.out (A := A0) (c := c0) (l := l0) (by simp) HS.out).mono ?_); rintro e w1 ⟨As, cs, rfl, hE1⟩) | (go_at_call 14; (with_reducible refine (list_E hE1 (A := A1) (c := c1) (l := l1) (by simp) HC.out).mono ?_); rintro e w2 ⟨Ac, cc, rfl, hE2⟩))
  have HE2 := Lib.hid hE2
  clear hE1 hE2
  go_upto_region 3 with (go_at_call 37; (with_reducible refine (foresee_E HE2.out (A0 := As) (c0 := cs) (s := s) (A1 := Ac) (c1 := cc) (c := c) (by simp) (by simp) HF1.out).mono ?_); rintro e w3 ⟨Aa, ca, rfl, hE3⟩)
  have HE3 := Lib.hid hE3
  clear hE3
  go_upto_region 5 with (first | (go_at_call 17; (with_reducible refine (positions_E HE3.out (A0 := As) (c0 := cs) (s := s) (by simp) (by omega) HBP.out).mono ?_); rintro e w5 ⟨rfl, hE5⟩) | (go_at_call 18; (with_reducible refine (calls_E hE5 (A0 := Ac) (c0 := cc) (s := c) (by simp) (by omega) HBC.out).mono ?_); rintro e w6 ⟨rfl, hE6⟩))
  have HE6 := Lib.hid hE6
  clear hE5 hE6
  go_upto_region 6 with (go_at_call 38; (with_reducible refine (HR1.out _ _ _ HE6.out As cs Ac cc (by simp) (by simp)).mono ?_); rintro e w7 ⟨Ax, cx, rfl, hE7⟩)
  have HE8 := Lib.hid hE7
  clear hE7
  go_wp2_with (first | (go_at_call 39; (with_reducible refine (same_E HE8.out (A0 := Aa) (c0 := ca) (a := X) (A1 := Ax) (c1 := cx) (b := X) (by simp) (by simp) (by omega) HRX2.out (r := true) (by simp)).mono ?_); rintro e w9 ⟨rfl, hE9⟩) | (go_at_call 21; (with_reducible refine (refCost_E hE9 (A0 := As) (c0 := cs) (s := s) (A1 := Ax) (c1 := cx) (l := X) (by simp) (by simp) hk3 HPS.out (by omega) HRX.out HQ.out).mono ?_); rintro e w10 ⟨rfl, hE10⟩) | (go_at_call 19; (with_reducible refine (awake_E hE10).mono ?_); rintro e w13 ⟨rfl, hE13⟩))
  go_ret
  exact ⟨rfl, hE13.bel⟩
theorem foresees_c (A0 : Option Addr) (c0 : Nat) (l0 : List Int) (A1 : Option Addr) (c1 : Nat) (l1 : List Int) (w : World) (h0 : Kd.C (Kd.int .i64) w A0 l0.length l0) (hc0 : l0.length ≤ c0) (h1 : Kd.C (Kd.int .i64) w A1 l1.length l1) (hc1 : l1.length ≤ c1) :
    Calls Try.prog 10 #[.slice A0 l0.length c0, .slice A1 l1.length c1] w fun e w' => e = .returned (.bool true) ∧ Below w.heap.size w w' := by
  by_cases hh : hallB (l0.take 41) (l1.take 41) = true
  · exact foresees_yes A0 c0 l0 A1 c1 l1 w h0 hc0 h1 hc1 rfl rfl hh
  · exact foresees_no A0 c0 l0 A1 c1 l1 w h0 hc0 h1 hc1 rfl rfl (Bool.eq_false_iff.2 hh)
end Go.Proofs.Ytakbijpcfnipoaa.L

set_option linter.unusedVariables false
set_option linter.unusedSimpArgs false
namespace Go.Proofs.Ytakbijpcfnipoaa.E
open Go.ChangeShapes Go.WideShapes Go.ChangeAt Go.RowKit Go.Deep
open Go.Proofs.YtakbijpcfnipoaaW.PrintWords Go.Proofs.YtakbijpcfnipoaaW.PrintLast Go.Proofs.YtakbijpcfnipoaaW.PrintMore
open Go.Proofs.Ytakbijpcfnipoaa.PA
theorem own : ownKnob Try.prog.godebug = none := by kernel_rfl
theorem laidOut : laidOutB Try.prog = true := by kernel_rfl
variable {H : Type} {enc : TypeId × Value → H}
set_option maxRecDepth 100000 in
theorem open_cells {W : World} {cs : List Value} {d : DataW H} {p : List MemPlace} {fuel : Nat} (hf : DataW.trod enc Try.prog W 0 (fun _ => true) true fuel 22 cs = some (d, p)) :
    ∃ a len cap, ∃ xs : List Int, cs = [.slice a len cap] ∧ xs.length = len ∧ len ≤ cap ∧ Kd.C (Kd.int .i64) W a len xs ∧ ∀ x ∈ xs, (Lit.int .i64 x).wf = true := by
  rcases open_ints Try.underlying22 Try.underlying3 (by kernel_rfl) hf with ⟨hcs, _⟩ | ⟨x, l, c, zs, hcs, _, hl, hm, hz, _, hcell, hwz⟩
  · exact ⟨none, 0, 0, [], hcs, rfl, Nat.le_refl _, ⟨rfl, by omega, fun h => by omega⟩, fun x hx => by simp at hx⟩
  · simp only [if_true] at hz
    refine ⟨some x, l, c, zs.take l, hcs, by rw [List.length_take]; omega, hl, ⟨by rw [List.length_take]; omega, by unfold maxLen at hm; omega, fun _ => ⟨x, rfl, fun j p hp => ?_⟩⟩, fun s hs => hwz s (List.mem_of_mem_take hs)⟩
    have hj : j < l := by have := (List.getElem?_eq_some_iff.1 hp).1; rw [List.length_take] at this; omega
    rw [List.getElem?_take_of_lt hj] at hp
    have h1 := hcell j (by omega)
    rw [List.getD_eq_getElem?_getD, hp] at h1
    refine ⟨[.int .i64 p], rfl, rfl, fun i u hu => ?_⟩
    match i, hu with
    | 0, hu => simp at hu; subst hu; show W.cell? (x.add (j * 1 + 0)) = _; rw [Nat.mul_one, Nat.add_zero]; simpa using h1
    | i + 1, hu => simp at hu
theorem open_is {W : World} {a : Option Addr} {len cap : Nat} {d : DataW H} {p : List MemPlace} (h : DataW.Trod enc Try.prog W 0 (fun _ => true) true 22 (.slice a len cap) d p) :
    ∃ xs : List Int, xs.length = len ∧ len ≤ cap ∧ Kd.C (Kd.int .i64) W a len xs ∧ ∀ x ∈ xs, (Lit.int .i64 x).wf = true := by
  obtain ⟨fuel, hf⟩ := h
  obtain ⟨a', l', c', xs, hcs, h1, h2, h3, h4⟩ := open_cells hf
  simp [Value.cells] at hcs
  obtain ⟨rfl, rfl, rfl⟩ := hcs
  exact ⟨xs, h1, h2, h3, h4⟩
end Go.Proofs.Ytakbijpcfnipoaa.E
