/- For all bookings, rooms and numbers the statement RoomsTurned holds: Go's function returns true and changes nothing that existed. -/
import Derived.Test.YtpjobcnfjpbaeaaRows
import Derived.WalkKit
import Derived.ProofKit
import Derived.OpenShut
import Derived.ShutString
import Derived.ChangeOld
import Derived.Below
import Derived.SizedLaws
import Derived.Deep.Slices
import Derived.Deep.Strs
import Derived.Lib.SmallJoins
import Derived.Test.YtpjobcnfjpbaeaaZh5
set_option linter.unusedSimpArgs false
set_option linter.unusedVariables false

namespace Go.Proofs.Ytpjobcnfjpbaeaa.PA
open Go.RowKit Go.Proofs.YtpjobcnfjpbaeaaW.PrintWords Go.Proofs.YtpjobcnfjpbaeaaW.PrintLast Go.Proofs.YtpjobcnfjpbaeaaW.PrintMore
attribute [local go_sem] max2_int min2_int max_two min_two max_three min_three max_four min_four
set_option linter.unusedVariables false
set_option linter.unusedSimpArgs false
mutual
def turndownlaw08_RoomsTurned.l0 : Nat → List Int → List (S47) → Int → List (S47) → List (S47) → Int → Option (Bool)
  | 0, _, _, _, _, _, _ => none
  | k + 1, x7, x8, x9, x10, x11, x13 => if x13 < (x8.length : Int) then (if 0 ≤ x13 then ((turndownlaw08_mod.f ((rd_T47 x8 x13).f2) 100001).bind fun t294 => ((some (x8.set (x13 : Int).toNat (⟨(rd_T47 x8 x13).f0, (rd_T47 x8 x13).f1, t294⟩ : S47) : List (S47))).bind fun y295 => (if x10.length < 5864062014805 then (if x11.length < 5864062014805 then (turndownlaw08_RoomsTurned.l0 k x7 y295 x9 (x10 ++ [(⟨wrap64 ((x7.length : Int) - ((rd_T47 y295 x13).f1)), wrap64 ((x7.length : Int) - ((rd_T47 y295 x13).f0)), (rd_T47 y295 x13).f2⟩ : S47)]) (x11 ++ [(⟨(rd_T47 y295 x13).f0, (rd_T47 y295 x13).f1, wrap64 (x9 * ((rd_T47 y295 x13).f2))⟩ : S47)]) (wrap64 (x13 + 1))) else (none)) else (none)))) else (none)) else (turndownlaw08_RoomsTurned.l1 k x7 x8 x9 x10 x11 ([] : List Int) (wrap64 ((x7.length : Int) - 1)))
def turndownlaw08_RoomsTurned.l1 : Nat → List Int → List (S47) → Int → List (S47) → List (S47) → List Int → Int → Option (Bool)
  | 0, _, _, _, _, _, _, _ => none
  | k + 1, x7, x8, x9, x10, x11, x12, x14 => if x14 ≥ 0 then (if 0 ≤ x14 then (if x14 < (x7.length : Int) then (if x12.length < 17592186044416 then (turndownlaw08_RoomsTurned.l1 k x7 x8 x9 x10 x11 (x12 ++ [rd x7 x14]) (wrap64 (x14 - 1))) else (none)) else (none)) else (none)) else ((rooms_Accept.f k x8 x7).bind fun bt312 => (if bt312.2.2.2 = 0 then ((turndownref08_Fits.f k x8 x7 bt312.1).bind fun t321 => (turndownlaw08_RoomsTurned.j2 k x7 x8 x9 x10 x11 x12 bt312.2.2.1 (!t321) bt312.1 bt312.2.1)) else (turndownlaw08_RoomsTurned.j2 k x7 x8 x9 x10 x11 x12 bt312.2.2.1 true bt312.1 bt312.2.1)))
def turndownlaw08_RoomsTurned.j2 : Nat → List Int → List (S47) → Int → List (S47) → List (S47) → List Int → Int → Bool → List Int → List Int → Option (Bool)
  | 0, _, _, _, _, _, _, _, _, _, _ => none
  | k + 1, x7, x8, x9, x10, x11, x12, x16, x121, x321000, x321001 => if x121 = true then (some false) else (turndownlaw08_RoomsTurned.l2 k x7 x8 x9 x10 x11 x12 x16 ([] : List (S47)) 0 x321000 x321001)
def turndownlaw08_RoomsTurned.l2 : Nat → List Int → List (S47) → Int → List (S47) → List (S47) → List Int → Int → List (S47) → Int → List Int → List Int → Option (Bool)
  | 0, _, _, _, _, _, _, _, _, _, _, _ => none
  | k + 1, x7, x8, x9, x10, x11, x12, x16, x18, x19, x321000, x321001 => if x19 < (x321000.length : Int) then (if 0 ≤ x19 then (if 0 ≤ (rd x321000 x19) then (if (rd x321000 x19) < (x8.length : Int) then (if x18.length < 5864062014805 then (turndownlaw08_RoomsTurned.l2 k x7 x8 x9 x10 x11 x12 x16 (x18 ++ [(⟨(rd_T47 x8 (rd x321000 x19)).f0, (rd_T47 x8 (rd x321000 x19)).f1, (rd_T47 x8 (rd x321000 x19)).f2⟩ : S47)]) (wrap64 (x19 + 1)) x321000 x321001) else (none)) else (none)) else (none)) else (none)) else ((turndownlaw08_revenue.f k x10 x12).bind fun t327 => (if t327 = x16 then ((turndownlaw08_revenue.f k x18 x7).bind fun t328 => (if t328 = x16 then ((turndownlaw08_revenue.f k x11 x7).bind fun t329 => (if t329 = (wrap64 (x9 * x16)) then ((turndownlaw08_awake.f).bind fun t330 => (some t330)) else (some false))) else (some false))) else (some false)))
end
def turndownlaw08_RoomsTurned.f (k : Nat) (l0 : List (S47)) (l1 : List Int) (a2 : Int) : Option (Bool) := (turndownlaw08_tamed.f k l1).bind fun t286 => ((turndownlaw08_tame.f l0 (t286.length : Int) 15).bind fun t289 => ((turndownlaw08_mod.f a2 9).bind fun t292 => (turndownlaw08_RoomsTurned.l0 k t286 t289 (wrap64 (1 + t292)) ([] : List (S47)) ([] : List (S47)) 0)))
def turndownlaw08_RoomsTurned.T10 : Bool × List (List Nat × List Nat) := (true, [([], []), ([], []), ([1], [1]), ([], []), ([], []), ([3, 4], [3, 4]), ([5], [5]), ([6], [6]), ([2, 7], [2, 7]), ([], []), ([9], [9]), ([], []), ([], []), ([11, 12], [11, 12]), ([13], [13]), ([14], [14]), ([10, 15], [10, 15]), ([], []), ([], []), ([17, 18], [17, 18]), ([19], [19]), ([20], [20]), ([8, 16, 21], [8, 16, 21]), ([22], [22]), ([0, 23], [0, 23]), ([24, 24, 0, 1, 2, 3, 4, 5, 6, 7, 8, 9, 10, 11, 12, 13, 14, 15, 16, 17, 18, 19, 20, 21, 22, 23, 24], [0, 24])])
def turndownlaw08_RoomsTurned.B10 : List Nat := [0, 0, 2, 0, 0, 24, 56, 120, 254, 0, 512, 0, 0, 6144, 14336, 30720, 65024, 0, 0, 393216, 917504, 1966080, 4194302, 8388606, 16777215, 33554431]
theorem turndownlaw08_RoomsTurned.tab10 : rtab .any (opsOf Try.f7 10) = turndownlaw08_RoomsTurned.T10 := by kernel_rfl
theorem turndownlaw08_RoomsTurned.bits10 : waitsOk turndownlaw08_RoomsTurned.T10.2 turndownlaw08_RoomsTurned.B10 = true := by kernel_rfl
def turndownlaw08_RoomsTurned.T11 : Bool × List (List Nat × List Nat) := (true, [([], []), ([], []), ([], []), ([1, 2], [1, 2]), ([3], [3]), ([4], [4]), ([], []), ([], []), ([6, 7], [6, 7]), ([8], [8]), ([9], [9]), ([], []), ([], []), ([], []), ([12, 13], [12, 13]), ([14], [14]), ([15], [15]), ([11, 16], [11, 16]), ([5, 10, 17], [5, 10, 17]), ([18], [18]), ([0, 19], [0, 19]), ([20, 20, 0, 1, 2, 3, 4, 5, 6, 7, 8, 9, 10, 11, 12, 13, 14, 15, 16, 17, 18, 19, 20], [0, 20])])
def turndownlaw08_RoomsTurned.B11 : List Nat := [0, 0, 0, 6, 14, 30, 0, 0, 192, 448, 960, 0, 0, 0, 12288, 28672, 61440, 129024, 262142, 524286, 1048575, 2097151]
theorem turndownlaw08_RoomsTurned.tab11 : rtab .any (opsOf Try.f7 11) = turndownlaw08_RoomsTurned.T11 := by kernel_rfl
theorem turndownlaw08_RoomsTurned.bits11 : waitsOk turndownlaw08_RoomsTurned.T11.2 turndownlaw08_RoomsTurned.B11 = true := by kernel_rfl
set_option maxHeartbeats 8000000 in
set_option maxRecDepth 100000 in
theorem turndownlaw08_RoomsTurned.calls (k : Nat) (A0 : Option Addr) (c0 : Nat) (l0 : List (S47)) (A1 : Option Addr) (c1 : Nat) (l1 : List Int) (a2 : Int) (r : Bool) (w : World) (hr0 : Kd.C k47 w A0 l0.length l0) (hc0 : l0.length ≤ c0) (hr1 : Kd.C (Kd.int .i64) w A1 l1.length l1) (hc1 : l1.length ≤ c1) (h : turndownlaw08_RoomsTurned.f k l0 l1 a2 = some r) :
    Calls Try.prog 7 #[.slice A0 l0.length c0, .slice A1 l1.length c1, .int .i64 a2] w fun e w' => e = .returned (.bool r) ∧ Below w.heap.size w w' := by
  have hu47 := Try.underlying47
  have hu39 := Try.underlying39
  have HR0 := Aside0.mk hr0
  have HC0 := Aside0.mk hc0
  clear hr0 hc0
  have HR1 := Aside0.mk hr1
  have HC1 := Aside0.mk hc1
  clear hr1 hc1
  have HB := Aside0.mk (Below.refl w.heap.size w)
  have H : ((turndownlaw08_tamed.f k l1).bind fun t286 => ((turndownlaw08_tame.f l0 (t286.length : Int) 15).bind fun t289 => ((turndownlaw08_mod.f a2 9).bind fun t292 => (turndownlaw08_RoomsTurned.l0 k t286 t289 (wrap64 (1 + t292)) ([] : List (S47)) ([] : List (S47)) 0)))) = some r := h
  clear h
  replace H := Option.bind_eq_some_iff.mp H
  obtain ⟨t286, A40, H⟩ := H
  replace H : ((turndownlaw08_tame.f l0 (t286.length : Int) 15).bind fun t289 => ((turndownlaw08_mod.f a2 9).bind fun t292 => (turndownlaw08_RoomsTurned.l0 k t286 t289 (wrap64 (1 + t292)) ([] : List (S47)) ([] : List (S47)) 0))) = some r := H
  have A4 := Aside0.mk A40
  clear A40
  replace H := Option.bind_eq_some_iff.mp H
  obtain ⟨t289, A50, H⟩ := H
  replace H : ((turndownlaw08_mod.f a2 9).bind fun t292 => (turndownlaw08_RoomsTurned.l0 k t286 t289 (wrap64 (1 + t292)) ([] : List (S47)) ([] : List (S47)) 0)) = some r := H
  have A5 := Aside0.mk A50
  clear A50
  replace H := Option.bind_eq_some_iff.mp H
  obtain ⟨t292, A60, H⟩ := H
  replace H : (turndownlaw08_RoomsTurned.l0 k t286 t289 (wrap64 (1 + t292)) ([] : List (S47)) ([] : List (S47)) 0) = some r := H
  have A6 := Aside0.mk A60
  clear A60
  have H' := Aside0.mk H
  clear H
  go_enter Try.func7, Try.ntmps7
  go_wp2_with (first | ((with_reducible refine gate_callee (f := 23) rfl ?_); refine goesL_ (some 21) rfl rfl Try.func23 (by kernel_rfl) rfl #[.slice A1 l1.length c1] rfl (by (try simp only [List.map_toArray, List.map_cons, List.map_nil]); first | done | rfl | (simp only [List.length_drop, List.length_take]; rfl)) ?_; (with_reducible refine (turndownlaw08_tamed.calls k _ _ l1 t286 _ ?side1 ?side2 A4.out).mono ?_); (case side1 => repeat (first | exact HR1.out | (with_reducible refine Kd.C_alloc ?_ _) | (with_reducible refine Kd.C_drewN ?_ _) | (with_reducible refine Kd.C_drew ?_))); (case side2 => exact HC1.out); rintro e w7 ⟨v287, rfl, ho0, hb⟩; refine ⟨_, rfl, ?_⟩; have n0_ := Aside0.mk (Kd.R_lower ho0 (below_size (by repeat (first | (with_reducible first | exact HB.out | apply below_alloc | apply pw_below_drewN | apply below_drew1) | exact HB.out)))); have n1_ := Aside0.mk (below_step (by repeat (first | (with_reducible first | exact HB.out | apply below_alloc | apply pw_below_drewN | apply below_drew1) | exact HB.out)) hb); clear HB; have HO288 := n0_; have HB := n1_; clear n0_ n1_; (try clear hb); (try clear hb2); (try clear hk); (try clear hi); (try clear ho0); obtain ⟨Ao8, co8, eo8⟩ := Kd.R_slice HO288.out; subst eo8) | ((with_reducible refine gate_callee (f := 24) rfl ?_); refine goesL_ (some 25) rfl rfl Try.func24 (by kernel_rfl) rfl #[.slice A0 l0.length c0, .int .i64 (t286.length : Int), .int .i64 15] rfl (by (try simp only [List.map_toArray, List.map_cons, List.map_nil]); first | done | rfl | (simp only [List.length_drop, List.length_take]; rfl)) ?_; (with_reducible refine (turndownlaw08_tame.calls _ _ l0 (t286.length : Int) 15 t289 _ ?side1 ?side2 A5.out).mono ?_); (case side1 => repeat (first | exact (Kd.C_below HR0.out HB.out) | (with_reducible refine Kd.C_alloc ?_ _) | (with_reducible refine Kd.C_drewN ?_ _) | (with_reducible refine Kd.C_drew ?_))); (case side2 => exact HC0.out); rintro e w9 ⟨v290, rfl, ho0, hb⟩; refine ⟨_, rfl, ?_⟩; have n0_ := Aside0.mk (Kd.R_below (by (with_reducible repeat (first | apply Kd.R_alloc | apply Kd.R_drewN | apply Kd.R_drew)); exact HO288.out) hb); have n1_ := Aside0.mk (Kd.R_lower ho0 (below_size (by repeat (first | (with_reducible first | exact HB.out | apply below_alloc | apply pw_below_drewN | apply below_drew1) | exact HB.out)))); have n2_ := Aside0.mk (below_step (by repeat (first | (with_reducible first | exact HB.out | apply below_alloc | apply pw_below_drewN | apply below_drew1) | exact HB.out)) hb); clear HO288; clear HB; have HO288 := n0_; have HO291 := n1_; have HB := n2_; clear n0_ n1_ n2_; (try clear hb); (try clear hb2); (try clear hk); (try clear hi); (try clear ho0)) | ((with_reducible refine gate_callee (f := 26) rfl ?_); refine goesL_ (some 27) rfl rfl Try.func26 (by kernel_rfl) rfl #[.int .i64 a2, .int .i64 9] rfl (by (try simp only [List.map_toArray, List.map_cons, List.map_nil]); first | done | rfl | (simp only [List.length_drop, List.length_take]; rfl)) ?_; (with_reducible refine (turndownlaw08_mod.calls a2 9 t292 _ A6.out).mono ?_); rintro e w' ⟨rfl, ⟨nd, rfl⟩⟩; refine ⟨_, rfl, ?_⟩))
  go_loopg [10, 11, 13] k (fun kq v10 v11 v13 w' => ∃ (x8_1 : List (S47)) (x10_1 : List (S47)) (x11_1 : List (S47)) (x13_1 : Int), v13 = .int .i64 x13_1 ∧ Aside0 (turndownlaw08_RoomsTurned.l0 kq t286 x8_1 (wrap64 (1 + t292)) x10_1 x11_1 x13_1 = some r) ∧ Aside0 (kq ≤ k) ∧ Aside0 (Kd.R (Kd.int .i64) 3 w' w.heap.size (fun _ => True) (.slice Ao8 t286.length co8) t286) ∧ Aside0 (Kd.R k47 47 w' w.heap.size (fun k_ => some k_ ≠ (v10 : Value).ownBlock ∧ some k_ ≠ (v11 : Value).ownBlock) v290 x8_1) ∧ Aside0 (Kd.R k47 47 w' w.heap.size (fun k_ => some k_ ≠ (v290 : Value).ownBlock ∧ some k_ ≠ (v11 : Value).ownBlock) v10 x10_1) ∧ Aside0 (Kd.R k47 47 w' w.heap.size (fun k_ => some k_ ≠ (v290 : Value).ownBlock ∧ some k_ ≠ (v10 : Value).ownBlock) v11 x11_1) ∧ Aside0 (Below w.heap.size w w'))
  case atStart => exact ⟨(t289), (([] : List (S47))), (([] : List (S47))), (0), (by first | rfl | (simp; done) | (simp [*]; done)), H', ⟨Nat.le_refl _⟩, ⟨by (with_reducible repeat (first | apply Kd.R_alloc | apply Kd.R_drewN | apply Kd.R_drew)); exact HO288.out⟩, ⟨by (with_reducible repeat (first | apply Kd.R_alloc | apply Kd.R_drewN | apply Kd.R_drew)); exact Kd.R_mono HO291.out (fun _ hk => ⟨(by simp [Value.ownBlock]), (by simp [Value.ownBlock])⟩)⟩, ⟨by first | exact Kd.R_nil _ _ _ _ _ | exact Kd.N_nil _ _ _ _ _ | exact Kd.V_nil _ _ _ _ _ | exact Kd.Q_nil _ _ _ _ _ | exact Kd.S_nil _ _ _ _ _⟩, ⟨by first | exact Kd.R_nil _ _ _ _ _ | exact Kd.N_nil _ _ _ _ _ | exact Kd.V_nil _ _ _ _ _ | exact Kd.Q_nil _ _ _ _ _ | exact Kd.S_nil _ _ _ _ _⟩, ⟨by repeat (first | (with_reducible first | exact HB.out | apply below_alloc | apply pw_below_drewN | apply below_drew1) | exact HB.out)⟩⟩
  case round =>
    clear H'
    try clear c1
    try clear c2
    try clear p2
    try clear p6
    try clear c7
    obtain ⟨x8_1, x10_1, x11_1, x13_1, rfl, HA, HK1, HO_7, HO_8, HO_10, HO_11, HB⟩ := hrel
    cases gk with
    | zero => exact absurd HA.out (by simp [turndownlaw08_RoomsTurned.l0])
    | succ k1 =>
      have H := HA.out
      clear HA
      simp only [turndownlaw08_RoomsTurned.l0] at H
      by_cases c10 : x13_1 < (x8_1.length : Int)
      · rw [if_pos c10] at H
        have c10b0 : decide (x13_1 < (x8_1.length : Int)) = true := decide_eq_true c10
        clear c10
        by_cases c11 : 0 ≤ x13_1
        · rw [if_pos c11] at H
          have c11b0 : decide (0 ≤ x13_1) = true := decide_eq_true c11
          clear c11
          replace H := Option.bind_eq_some_iff.mp H
          obtain ⟨t294, A120, H⟩ := H
          replace H : ((some (x8_1.set (x13_1 : Int).toNat (⟨(rd_T47 x8_1 x13_1).f0, (rd_T47 x8_1 x13_1).f1, t294⟩ : S47) : List (S47))).bind fun y295 => (if x10_1.length < 5864062014805 then (if x11_1.length < 5864062014805 then (turndownlaw08_RoomsTurned.l0 k1 t286 y295 (wrap64 (1 + t292)) (x10_1 ++ [(⟨wrap64 ((t286.length : Int) - ((rd_T47 y295 x13_1).f1)), wrap64 ((t286.length : Int) - ((rd_T47 y295 x13_1).f0)), (rd_T47 y295 x13_1).f2⟩ : S47)]) (x11_1 ++ [(⟨(rd_T47 y295 x13_1).f0, (rd_T47 y295 x13_1).f1, wrap64 ((wrap64 (1 + t292)) * ((rd_T47 y295 x13_1).f2))⟩ : S47)]) (wrap64 (x13_1 + 1))) else (none)) else (none))) = some r := H
          have A12 := Aside0.mk A120
          clear A120
          obtain ⟨y295, hy295⟩ : ∃ y_ : List (S47), y_ = (x8_1.set (x13_1 : Int).toNat (⟨(rd_T47 x8_1 x13_1).f0, (rd_T47 x8_1 x13_1).f1, t294⟩ : S47)) := ⟨_, rfl⟩
          replace H : (if x10_1.length < 5864062014805 then (if x11_1.length < 5864062014805 then (turndownlaw08_RoomsTurned.l0 k1 t286 y295 (wrap64 (1 + t292)) (x10_1 ++ [(⟨wrap64 ((t286.length : Int) - ((rd_T47 y295 x13_1).f1)), wrap64 ((t286.length : Int) - ((rd_T47 y295 x13_1).f0)), (rd_T47 y295 x13_1).f2⟩ : S47)]) (x11_1 ++ [(⟨(rd_T47 y295 x13_1).f0, (rd_T47 y295 x13_1).f1, wrap64 ((wrap64 (1 + t292)) * ((rd_T47 y295 x13_1).f2))⟩ : S47)]) (wrap64 (x13_1 + 1))) else (none)) else (none)) = some r := by first | (rw [hy295]; with_reducible exact H) | (have H2_ := (Option.bind_some _ _).symm.trans H; rw [hy295]; with_reducible exact H2_) | (have H2_ := (Option.bind_some _ _).symm.trans H; with_reducible exact H2_) | with_reducible exact H | (rw [hy295]; exact H) | exact H
          have Ny295 := Aside0.mk hy295
          clear hy295
          by_cases c14 : x10_1.length < 5864062014805
          · rw [if_pos c14] at H
            have LMc14 := Aside0.mk c14
            clear c14
            obtain ⟨y299, hy299⟩ : ∃ y_ : List (S47), y_ = (x10_1 ++ [(⟨wrap64 ((t286.length : Int) - ((rd_T47 y295 x13_1).f1)), wrap64 ((t286.length : Int) - ((rd_T47 y295 x13_1).f0)), (rd_T47 y295 x13_1).f2⟩ : S47)]) := ⟨_, rfl⟩
            replace H : (if x11_1.length < 5864062014805 then (turndownlaw08_RoomsTurned.l0 k1 t286 y295 (wrap64 (1 + t292)) y299 (x11_1 ++ [(⟨(rd_T47 y295 x13_1).f0, (rd_T47 y295 x13_1).f1, wrap64 ((wrap64 (1 + t292)) * ((rd_T47 y295 x13_1).f2))⟩ : S47)]) (wrap64 (x13_1 + 1))) else (none)) = some r := by first | (rw [hy299]; with_reducible exact H) | (have H2_ := (Option.bind_some _ _).symm.trans H; rw [hy299]; with_reducible exact H2_) | (have H2_ := (Option.bind_some _ _).symm.trans H; with_reducible exact H2_) | with_reducible exact H | (rw [hy299]; exact H) | exact H
            have Ny299 := Aside0.mk hy299
            clear hy299
            by_cases c15 : x11_1.length < 5864062014805
            · rw [if_pos c15] at H
              have LMc15 := Aside0.mk c15
              clear c15
              obtain ⟨y305, hy305⟩ : ∃ y_ : List (S47), y_ = (x11_1 ++ [(⟨(rd_T47 y295 x13_1).f0, (rd_T47 y295 x13_1).f1, wrap64 ((wrap64 (1 + t292)) * ((rd_T47 y295 x13_1).f2))⟩ : S47)]) := ⟨_, rfl⟩
              replace H : (turndownlaw08_RoomsTurned.l0 k1 t286 y295 (wrap64 (1 + t292)) y299 y305 (wrap64 (x13_1 + 1))) = some r := by first | (rw [hy305]; with_reducible exact H) | (have H2_ := (Option.bind_some _ _).symm.trans H; rw [hy305]; with_reducible exact H2_) | (have H2_ := (Option.bind_some _ _).symm.trans H; with_reducible exact H2_) | with_reducible exact H | (rw [hy305]; exact H) | exact H
              have Ny305 := Aside0.mk hy305
              clear hy305
              have H' := Aside0.mk H
              clear H
              obtain ⟨Ao16, co16, eo16⟩ := Kd.R_slice HO_8.out
              subst eo16
              have p293 : 0 ≤ (x13_1 : Int) := of_decide_eq_true (by first | (with_reducible assumption) | assumption)
              have q293 : x13_1 < (x8_1.length : Int) := of_decide_eq_true (by first | (with_reducible assumption) | assumption)
              obtain ⟨ad293, e293, hx293_0, hx293_1, hx293_2⟩ := at_T47 (Kd.R_reads' HO_8.out).2.2 x13_1 p293 q293
              cases e293
              replace p293 := eq_true p293
              replace q293 := eq_true q293
              try go_wp2_with (first | ((with_reducible refine gate_callee (f := 26) rfl ?_); refine goesL_ (some 42) rfl rfl Try.func26 (by kernel_rfl) rfl #[.int .i64 ((rd_T47 x8_1 x13_1).f2), .int .i64 100001] rfl (by (try simp only [List.map_toArray, List.map_cons, List.map_nil]); first | done | rfl | (simp only [List.length_drop, List.length_take]; rfl)) ?_; (with_reducible refine (turndownlaw08_mod.calls ((rd_T47 x8_1 x13_1).f2) 100001 t294 _ A12.out).mono ?_); rintro e w' ⟨rfl, ⟨nd, rfl⟩⟩; refine ⟨_, rfl, ?_⟩; (try (rw [drewN_self wr]; generalize hq_ : World.drewN wr _ = wr; have n0_ : Aside0 (Kd.R k47 47 wr w.heap.size (fun k_ => some k_ ≠ (u11 : Value).ownBlock ∧ some k_ ≠ (.slice (some ad293) x8_1.length co16 : Value).ownBlock) u10 x10_1) := ⟨by rw [← hq_]; exact (by (with_reducible repeat (first | apply Kd.R_alloc | apply Kd.R_drewN | apply Kd.R_drew)); exact Kd.R_mono HO_10.out (fun _ hk => (by first | exact ⟨hk.2, hk.1⟩ | exact hk)))⟩; have n1_ : Aside0 (Kd.R k47 47 wr w.heap.size (fun k_ => some k_ ≠ (u10 : Value).ownBlock ∧ some k_ ≠ (.slice (some ad293) x8_1.length co16 : Value).ownBlock) u11 x11_1) := ⟨by rw [← hq_]; exact (by (with_reducible repeat (first | apply Kd.R_alloc | apply Kd.R_drewN | apply Kd.R_drew)); exact Kd.R_mono HO_11.out (fun _ hk => (by first | exact ⟨hk.2, hk.1⟩ | exact hk)))⟩; have n2_ : Aside0 (Kd.R (Kd.int .i64) 3 wr w.heap.size (fun _ => True) (.slice Ao8 t286.length co8) t286) := ⟨by rw [← hq_]; exact (by (with_reducible repeat (first | apply Kd.R_alloc | apply Kd.R_drewN | apply Kd.R_drew)); exact HO_7.out)⟩; have n3_ : Aside0 (Kd.R k47 47 wr w.heap.size (fun k_ => some k_ ≠ (u10 : Value).ownBlock ∧ some k_ ≠ (u11 : Value).ownBlock) (.slice (some ad293) x8_1.length co16) x8_1) := ⟨by rw [← hq_]; exact (by (with_reducible repeat (first | apply Kd.R_alloc | apply Kd.R_drewN | apply Kd.R_drew)); exact HO_8.out)⟩; have n4_ : Aside0 (Below w.heap.size w wr) := ⟨by rw [← hq_]; exact (by repeat (first | (with_reducible first | exact HB.out | apply below_alloc | apply pw_below_drewN | apply below_drew1) | exact HB.out))⟩; clear HO_10 HO_11 HO_7 HO_8 HB hq_; have HO_10 := n0_; have HO_11 := n1_; have HO_7 := n2_; have HO_8 := n3_; have HB := n4_; clear n0_ n1_ n2_ n3_ n4_)); have p13 : 0 ≤ (x13_1 : Int) := of_decide_eq_true (by first | (with_reducible assumption) | assumption); have q13 : (x13_1 : Int) < ((x8_1.length : Int) : Int) := of_decide_eq_true (by first | (with_reducible assumption) | assumption); obtain ⟨go13, co13, eo13, gb13, gl13, cl13, HG13⟩ := Kd.R_form HO_8.out (by omega); (first | cases eo13 | (injection eo13 with ea_ en_ ec_; (first | subst ea_ | (injection ea_ with ea_; subst ea_)); subst ec_; clear en_)); have GB13 := Aside0.mk gb13; have GG13 := Aside0.mk HG13; clear gb13 gl13 HG13; (first | simp only [add_plain] at hx293_0 | skip); (first | simp only [add_plain] at hx293_1 | skip); (first | simp only [add_plain] at hx293_2 | skip); obtain ⟨ce13, hcl13, hM13, hcc13, hfr13⟩ := Kd.R_elem HO_8.out z47 (x13_1 : Int) p13 q13; obtain rfl := k47_openM hM13; have hx13_0 : wr.cell? ⟨go13, (x13_1 : Int).toNat * 3, none⟩ = some (.int .i64 ((rd_T47 x8_1 x13_1).f0)) := hcc13 0 _ rfl; have hx13_1 : wr.cell? ⟨go13, (x13_1 : Int).toNat * 3 + 1, none⟩ = some (.int .i64 ((rd_T47 x8_1 x13_1).f1)) := hcc13 1 _ rfl; have hx13_2 : wr.cell? ⟨go13, (x13_1 : Int).toNat * 3 + 2, none⟩ = some (.int .i64 ((rd_T47 x8_1 x13_1).f2)) := hcc13 2 _ rfl; have hf13_0 : wr.frozen? ⟨go13, (x13_1 : Int).toNat * 3, none⟩ = false := hfr13 0; have hf13_1 : wr.frozen? ⟨go13, (x13_1 : Int).toNat * 3 + 1, none⟩ = false := hfr13 1; have hf13_2 : wr.frozen? ⟨go13, (x13_1 : Int).toNat * 3 + 2, none⟩ = false := hfr13 2; clear hcl13 hcc13 hfr13 hM13; replace p13 := eq_true p13; replace q13 := eq_true q13; have HX17 := Aside0.mk (show Kd.R k47 47 wr w.heap.size (fun k_ => some k_ ≠ (u10 : Value).ownBlock ∧ some k_ ≠ (u11 : Value).ownBlock) (.slice (some ⟨go13, 0, none⟩) x8_1.length co16) x8_1 from (by (with_reducible repeat (first | apply Kd.R_alloc | apply Kd.R_drewN | apply Kd.R_drew)); exact HO_8.out)); obtain ⟨ce17, hcl17, hM17, hcc17, hfr17⟩ := Kd.R_elem HX17.out z47 (x13_1 : Int) (of_decide_eq_true (by first | (with_reducible assumption) | assumption)) (by have h_ : (x13_1 : Int) < ((x8_1.length : Int) : Int) := of_decide_eq_true (by first | (with_reducible assumption) | assumption); first | exact h_ | (have e_ := (Kd.R_reads' HO_8.out).1; omega) | simpa using h_); obtain rfl := k47_openM hM17; have HP17 := Kd.R_seg HX17.out (x13_1 : Int) (of_decide_eq_true (by first | (with_reducible assumption) | assumption)) (by have h_ : (x13_1 : Int) < ((x8_1.length : Int) : Int) := of_decide_eq_true (by first | (with_reducible assumption) | assumption); first | exact h_ | (have e_ := (Kd.R_reads' HO_8.out).1; omega) | simpa using h_) (seg := [.int .i64 t294]) (j := 2) hcl17 hcc17 (show 3 ≤ 3 from by decide) (x' := (⟨(rd_T47 x8_1 x13_1).f0, (rd_T47 x8_1 x13_1).f1, t294⟩ : S47)) (k47_mkM _ _ _ (⟨(rd_T47 x8_1 x13_1).f0, (rd_T47 x8_1 x13_1).f1, t294⟩ : S47) ) (fun _ hk => hk); have hx17_2 := hcc17 2 _ rfl; (try simp only [show (k47).sz = 3 from rfl, Nat.mul_one, Nat.add_zero] at hx17_2); have hf17_2 := hfr17 2; (try simp only [show (k47).sz = 3 from rfl, Nat.mul_one, Nat.add_zero] at hf17_2); clear hcl17 hcc17 hfr17 hM17) | ((with_reducible refine gate_store (t := 3) (p := 44) rfl ?_); refine store_event (t := 3) (p := 44) (v := ?vo_w18) (w1 := (wr.setCell ⟨go13, (x13_1 : Int).toNat * 3 + 2, none⟩ (.int .i64 t294))) ?hg ?ho ?hn ?hr ?_; (case ho => rfl); (case hg => rfl); (case hn => rfl); (case hr => first | (go_simp; done) | (go_simp; rfl)); intro w18 hw; have hg : wr.grownBy w18 (some go13) := (by rw [hw]; exact HP17.2); have hp_ : Kd.R k47 47 w18 w.heap.size (fun k_ => some k_ ≠ (u10 : Value).ownBlock ∧ some k_ ≠ (u11 : Value).ownBlock) (.slice (some ⟨go13, 0, none⟩) x8_1.length co16) y295 := (by rw [hw, Ny295.out]; exact HP17.1); clear HP17; have n0_ := Aside0.mk (Kd.R_over' (v := (.slice (some ⟨go13, 0, none⟩) x8_1.length co16)) (by (with_reducible repeat (first | apply Kd.R_alloc | apply Kd.R_drewN | apply Kd.R_drew)); exact HO_7.out) (Kd.R_typed HO_8.out) (by decide) hg); have n1_ := Aside0.mk (hp_); have n2_ := Aside0.mk (Kd.R_after (v := (.slice (some ⟨go13, 0, none⟩) x8_1.length co16)) (v1 := (.slice (some ⟨go13, 0, none⟩) x8_1.length co16)) (ok := (fun k_ => some k_ ≠ (u11 : Value).ownBlock)) (by (with_reducible repeat (first | apply Kd.R_alloc | apply Kd.R_drewN | apply Kd.R_drew)); exact Kd.R_mono HO_10.out (fun _ hk => (by first | exact ⟨hk.2, hk.1⟩ | exact hk))) hg (.inl rfl)); have n3_ := Aside0.mk (Kd.R_after (v := (.slice (some ⟨go13, 0, none⟩) x8_1.length co16)) (v1 := (.slice (some ⟨go13, 0, none⟩) x8_1.length co16)) (ok := (fun k_ => some k_ ≠ (u10 : Value).ownBlock)) (by (with_reducible repeat (first | apply Kd.R_alloc | apply Kd.R_drewN | apply Kd.R_drew)); exact Kd.R_mono HO_11.out (fun _ hk => (by first | exact ⟨hk.2, hk.1⟩ | exact hk))) hg (.inl rfl)); have n4_ := Aside0.mk ((by rw [hw]; exact below_set (HB.out) GB13.out : Below w.heap.size w w18)); clear HO_7; clear HO_8; clear HO_10; clear HO_11; clear HB; have HO_7 := n0_; have HO_8 := n1_; have HO_10 := n2_; have HO_11 := n3_; have HB := n4_; clear n0_ n1_ n2_ n3_ n4_; clear hg hw hp_))
              have n0_ := Aside0.mk (Kd.R_drew HO_7.out)
              have n1_ := Aside0.mk (Kd.R_drew HO_8.out)
              have n2_ := Aside0.mk (Kd.R_drew HO_10.out)
              have n3_ := Aside0.mk (Kd.R_drew HO_11.out)
              have n4_ := Aside0.mk (below_drew1 HB.out)
              clear HO_7
              clear HO_8
              clear HO_10
              clear HO_11
              clear HB
              have HO_7 := n0_
              have HO_8 := n1_
              have HO_10 := n2_
              have HO_11 := n3_
              have HB := n4_
              clear n0_ n1_ n2_ n3_ n4_
              have p296 : 0 ≤ (x13_1 : Int) := of_decide_eq_true (by first | (with_reducible assumption) | assumption)
              have q296 : x13_1 < (y295.length : Int) := (by have h_ : (x13_1 : Int) < ((x8_1.length : Int) : Int) := of_decide_eq_true (by first | (with_reducible assumption) | assumption); first | (have e_ := (Kd.R_reads' HO_8.out).1; omega) | simpa only [Ny295.out, List.length_set] using h_)
              have ql296 : ((x13_1 : Int) < ((x8_1.length : Int) : Int)) = True := eq_true (of_decide_eq_true (by first | (with_reducible assumption) | assumption))
              obtain ⟨ad296, e296, hx296_0, hx296_1, hx296_2⟩ := at_T47 (Kd.R_reads' HO_8.out).2.2 x13_1 p296 q296
              obtain rfl : (⟨go13, 0, none⟩ : Addr) = ad296 := (by injection e296)
              (first | simp only [add_plain] at hx296_0 | simp only [add_at] at hx296_0 | simp only [Addr.add, Nat.zero_add] at hx296_0 | skip)
              (first | simp only [add_plain] at hx296_1 | simp only [add_at] at hx296_1 | simp only [Addr.add, Nat.zero_add] at hx296_1 | skip)
              (first | simp only [add_plain] at hx296_2 | simp only [add_at] at hx296_2 | simp only [Addr.add, Nat.zero_add] at hx296_2 | skip)
              replace p296 := eq_true p296
              replace q296 := eq_true q296
              have p297 : 0 ≤ (x13_1 : Int) := of_decide_eq_true (by first | (with_reducible assumption) | assumption)
              have q297 : x13_1 < (y295.length : Int) := (by have h_ : (x13_1 : Int) < ((x8_1.length : Int) : Int) := of_decide_eq_true (by first | (with_reducible assumption) | assumption); first | (have e_ := (Kd.R_reads' HO_8.out).1; omega) | simpa only [Ny295.out, List.length_set] using h_)
              have ql297 : ((x13_1 : Int) < ((x8_1.length : Int) : Int)) = True := eq_true (of_decide_eq_true (by first | (with_reducible assumption) | assumption))
              obtain ⟨ad297, e297, hx297_0, hx297_1, hx297_2⟩ := at_T47 (Kd.R_reads' HO_8.out).2.2 x13_1 p297 q297
              obtain rfl : (⟨go13, 0, none⟩ : Addr) = ad297 := (by injection e297)
              (first | simp only [add_plain] at hx297_0 | simp only [add_at] at hx297_0 | simp only [Addr.add, Nat.zero_add] at hx297_0 | skip)
              (first | simp only [add_plain] at hx297_1 | simp only [add_at] at hx297_1 | simp only [Addr.add, Nat.zero_add] at hx297_1 | skip)
              (first | simp only [add_plain] at hx297_2 | simp only [add_at] at hx297_2 | simp only [Addr.add, Nat.zero_add] at hx297_2 | skip)
              replace p297 := eq_true p297
              replace q297 := eq_true q297
              have p298 : 0 ≤ (x13_1 : Int) := of_decide_eq_true (by first | (with_reducible assumption) | assumption)
              have q298 : x13_1 < (y295.length : Int) := (by have h_ : (x13_1 : Int) < ((x8_1.length : Int) : Int) := of_decide_eq_true (by first | (with_reducible assumption) | assumption); first | (have e_ := (Kd.R_reads' HO_8.out).1; omega) | simpa only [Ny295.out, List.length_set] using h_)
              have ql298 : ((x13_1 : Int) < ((x8_1.length : Int) : Int)) = True := eq_true (of_decide_eq_true (by first | (with_reducible assumption) | assumption))
              obtain ⟨ad298, e298, hx298_0, hx298_1, hx298_2⟩ := at_T47 (Kd.R_reads' HO_8.out).2.2 x13_1 p298 q298
              obtain rfl : (⟨go13, 0, none⟩ : Addr) = ad298 := (by injection e298)
              (first | simp only [add_plain] at hx298_0 | simp only [add_at] at hx298_0 | simp only [Addr.add, Nat.zero_add] at hx298_0 | skip)
              (first | simp only [add_plain] at hx298_1 | simp only [add_at] at hx298_1 | simp only [Addr.add, Nat.zero_add] at hx298_1 | skip)
              (first | simp only [add_plain] at hx298_2 | simp only [add_at] at hx298_2 | simp only [Addr.add, Nat.zero_add] at hx298_2 | skip)
              replace p298 := eq_true p298
              replace q298 := eq_true q298
              refine start_ (n := 26) (S := fun w' => w'.cell? ⟨go13, (x13_1).toNat * 3, none⟩ = some (.int .i64 ((rd_T47 y295 x13_1).f0)) ∧ w'.cell? ⟨go13, (x13_1).toNat * 3 + 1, none⟩ = some (.int .i64 ((rd_T47 y295 x13_1).f1)) ∧ w'.cell? ⟨go13, (x13_1).toNat * 3 + 2, none⟩ = some (.int .i64 ((rd_T47 y295 x13_1).f2)) ∧ w'.cell? ⟨go13, (x13_1).toNat * 3, none⟩ = some (.int .i64 ((rd_T47 y295 x13_1).f0)) ∧ w'.cell? ⟨go13, (x13_1).toNat * 3 + 1, none⟩ = some (.int .i64 ((rd_T47 y295 x13_1).f1)) ∧ w'.cell? ⟨go13, (x13_1).toNat * 3 + 2, none⟩ = some (.int .i64 ((rd_T47 y295 x13_1).f2)) ∧ w'.cell? ⟨go13, (x13_1).toNat * 3, none⟩ = some (.int .i64 ((rd_T47 y295 x13_1).f0)) ∧ w'.cell? ⟨go13, (x13_1).toNat * 3 + 1, none⟩ = some (.int .i64 ((rd_T47 y295 x13_1).f1)) ∧ w'.cell? ⟨go13, (x13_1).toNat * 3 + 2, none⟩ = some (.int .i64 ((rd_T47 y295 x13_1).f2))) (ds := [23, 24]) #[false, false, false, false, false, false, false, false, false, false, false, false, false, false, false, false, false, false, false, false, false, false, false, false, false, false] (by kernel_rfl) rfl rfl ⟨hx296_0, hx296_1, hx296_2, hx297_0, hx297_1, hx297_2, hx298_0, hx298_1, hx298_2⟩ (fun hHeld => ?_); refine with_tabW turndownlaw08_RoomsTurned.tab10 turndownlaw08_RoomsTurned.bits10 (fun HT_ HW_ => ?_)
              generalize w18.drew = w19 at HO_7 HO_8 HO_10 HO_11 HB hx296_0 hx296_1 hx296_2 hx297_0 hx297_1 hx297_2 hx298_0 hx298_1 hx298_2 hHeld ⊢
              refine pure_ (i := 0) (N := some 45) (v := ?_) (a' := ?_) #[true, false, false, false, false, false, false, false, false, false, false, false, false, false, false, false, false, false, false, false, false, false, false, false, false, false] rfl rfl (any_of HT_.out (by kernel_rfl)) (fun _ _ _ h => h) (Or.inl ⟨by rfl, ?_⟩) ?_ ?_
              rotate_left
              · intro w'
                go_simp
                with_reducible rfl
              rotate_left
              · simp only [Act.put, List.setIfInBounds_toArray, List.set_cons_zero, List.set_cons_succ, i64_w, i32_w]
                rfl
              refine pure_ (i := 1) (N := some 46) (v := ?_) (a' := ?_) #[true, true, false, false, false, false, false, false, false, false, false, false, false, false, false, false, false, false, false, false, false, false, false, false, false, false] rfl rfl (any_of HT_.out (by kernel_rfl)) (fun _ _ _ h => h) (Or.inl ⟨by rfl, ?_⟩) ?_ ?_
              rotate_left
              · intro w'
                go_simp
                with_reducible rfl
              rotate_left
              · simp only [Act.put, List.setIfInBounds_toArray, List.set_cons_zero, List.set_cons_succ, i64_w, i32_w]
                rfl
              refine pure_ (i := 2) (N := some 47) (v := ?_) (a' := ?_) #[true, true, true, false, false, false, false, false, false, false, false, false, false, false, false, false, false, false, false, false, false, false, false, false, false, false] rfl rfl (any_of HT_.out (by kernel_rfl)) (fun _ _ _ h => h) (Or.inl ⟨by rfl, ?_⟩) ?_ ?_
              rotate_left
              · intro w'
                go_simp
                with_reducible rfl
              rotate_left
              · simp only [Act.put, List.setIfInBounds_toArray, List.set_cons_zero, List.set_cons_succ, i64_w, i32_w]
                rfl
              refine pure_ (i := 3) (N := some 48) (v := ?_) (a' := ?_) #[true, true, true, true, false, false, false, false, false, false, false, false, false, false, false, false, false, false, false, false, false, false, false, false, false, false] rfl rfl (any_of HT_.out (by kernel_rfl)) (fun _ _ _ h => h) (Or.inl ⟨by rfl, ?_⟩) ?_ ?_
              rotate_left
              · intro w'
                go_simp
                with_reducible rfl
              rotate_left
              · simp only [Act.put, List.setIfInBounds_toArray, List.set_cons_zero, List.set_cons_succ, i64_w, i32_w]
                rfl
              refine pure_ (i := 4) (N := some 49) (v := ?_) (a' := ?_) #[true, true, true, true, true, false, false, false, false, false, false, false, false, false, false, false, false, false, false, false, false, false, false, false, false, false] rfl rfl (any_of HT_.out (by kernel_rfl)) (fun _ _ _ h => h) (Or.inl ⟨by rfl, ?_⟩) ?_ ?_
              rotate_left
              · intro w'
                go_simp
                with_reducible rfl
              rotate_left
              · simp only [Act.put, List.setIfInBounds_toArray, List.set_cons_zero, List.set_cons_succ, i64_w, i32_w]
                rfl
              refine pure_ (i := 5) (N := some 50) (v := ?_) (a' := ?_) #[true, true, true, true, true, true, false, false, false, false, false, false, false, false, false, false, false, false, false, false, false, false, false, false, false, false] rfl rfl (any_of HT_.out (by kernel_rfl)) (fun _ _ _ h => h) (Or.inl ⟨by rfl, ?_⟩) ?_ ?_
              rotate_left
              · intro w'
                go_simp
                with_reducible rfl
              rotate_left
              · simp only [Act.put, List.setIfInBounds_toArray, List.set_cons_zero, List.set_cons_succ, i64_w, i32_w]
                rfl
              refine pure_ (i := 6) (N := some 51) (v := ?_) (a' := ?_) #[true, true, true, true, true, true, true, false, false, false, false, false, false, false, false, false, false, false, false, false, false, false, false, false, false, false] rfl rfl (any_of HT_.out (by kernel_rfl)) (fun _ _ _ h => h) (Or.inl ⟨by rfl, ?_⟩) ?_ ?_
              rotate_left
              · intro w'
                go_simp
                with_reducible rfl
              rotate_left
              · simp only [Act.put, List.setIfInBounds_toArray, List.set_cons_zero, List.set_cons_succ, i64_w, i32_w]
                rfl
              refine pure_ (i := 9) (N := some 54) (v := ?_) (a' := ?_) #[true, true, true, true, true, true, true, false, false, true, false, false, false, false, false, false, false, false, false, false, false, false, false, false, false, false] rfl rfl (any_of HT_.out (by kernel_rfl)) (fun _ _ _ h => h) (Or.inl ⟨by rfl, ?_⟩) ?_ ?_
              rotate_left
              · intro w'
                go_simp
                with_reducible rfl
              rotate_left
              · simp only [Act.put, List.setIfInBounds_toArray, List.set_cons_zero, List.set_cons_succ, i64_w, i32_w]
                rfl
              refine pure_ (i := 10) (N := some 55) (v := ?_) (a' := ?_) #[true, true, true, true, true, true, true, false, false, true, true, false, false, false, false, false, false, false, false, false, false, false, false, false, false, false] rfl rfl (any_of HT_.out (by kernel_rfl)) (fun _ _ _ h => h) (Or.inl ⟨by rfl, ?_⟩) ?_ ?_
              rotate_left
              · intro w'
                go_simp
                with_reducible rfl
              rotate_left
              · simp only [Act.put, List.setIfInBounds_toArray, List.set_cons_zero, List.set_cons_succ, i64_w, i32_w]
                rfl
              refine pure_ (i := 11) (N := some 56) (v := ?_) (a' := ?_) #[true, true, true, true, true, true, true, false, false, true, true, true, false, false, false, false, false, false, false, false, false, false, false, false, false, false] rfl rfl (any_of HT_.out (by kernel_rfl)) (fun _ _ _ h => h) (Or.inl ⟨by rfl, ?_⟩) ?_ ?_
              rotate_left
              · intro w'
                go_simp
                with_reducible rfl
              rotate_left
              · simp only [Act.put, List.setIfInBounds_toArray, List.set_cons_zero, List.set_cons_succ, i64_w, i32_w]
                rfl
              refine pure_ (i := 12) (N := some 57) (v := ?_) (a' := ?_) #[true, true, true, true, true, true, true, false, false, true, true, true, true, false, false, false, false, false, false, false, false, false, false, false, false, false] rfl rfl (any_of HT_.out (by kernel_rfl)) (fun _ _ _ h => h) (Or.inl ⟨by rfl, ?_⟩) ?_ ?_
              rotate_left
              · intro w'
                go_simp
                with_reducible rfl
              rotate_left
              · simp only [Act.put, List.setIfInBounds_toArray, List.set_cons_zero, List.set_cons_succ, i64_w, i32_w]
                rfl
              refine pure_ (i := 13) (N := some 58) (v := ?_) (a' := ?_) #[true, true, true, true, true, true, true, false, false, true, true, true, true, true, false, false, false, false, false, false, false, false, false, false, false, false] rfl rfl (any_of HT_.out (by kernel_rfl)) (fun _ _ _ h => h) (Or.inl ⟨by rfl, ?_⟩) ?_ ?_
              rotate_left
              · intro w'
                go_simp
                with_reducible rfl
              rotate_left
              · simp only [Act.put, List.setIfInBounds_toArray, List.set_cons_zero, List.set_cons_succ, i64_w, i32_w]
                rfl
              refine pure_ (i := 14) (N := some 59) (v := ?_) (a' := ?_) #[true, true, true, true, true, true, true, false, false, true, true, true, true, true, true, false, false, false, false, false, false, false, false, false, false, false] rfl rfl (any_of HT_.out (by kernel_rfl)) (fun _ _ _ h => h) (Or.inl ⟨by rfl, ?_⟩) ?_ ?_
              rotate_left
              · intro w'
                go_simp
                with_reducible rfl
              rotate_left
              · simp only [Act.put, List.setIfInBounds_toArray, List.set_cons_zero, List.set_cons_succ, i64_w, i32_w]
                rfl
              refine pure_ (i := 17) (N := some 62) (v := ?_) (a' := ?_) #[true, true, true, true, true, true, true, false, false, true, true, true, true, true, true, false, false, true, false, false, false, false, false, false, false, false] rfl rfl (any_of HT_.out (by kernel_rfl)) (fun _ _ _ h => h) (Or.inl ⟨by rfl, ?_⟩) ?_ ?_
              rotate_left
              · intro w'
                go_simp
                with_reducible rfl
              rotate_left
              · simp only [Act.put, List.setIfInBounds_toArray, List.set_cons_zero, List.set_cons_succ, i64_w, i32_w]
                rfl
              refine pure_ (i := 18) (N := some 63) (v := ?_) (a' := ?_) #[true, true, true, true, true, true, true, false, false, true, true, true, true, true, true, false, false, true, true, false, false, false, false, false, false, false] rfl rfl (any_of HT_.out (by kernel_rfl)) (fun _ _ _ h => h) (Or.inl ⟨by rfl, ?_⟩) ?_ ?_
              rotate_left
              · intro w'
                go_simp
                with_reducible rfl
              rotate_left
              · simp only [Act.put, List.setIfInBounds_toArray, List.set_cons_zero, List.set_cons_succ, i64_w, i32_w]
                rfl
              refine pure_ (i := 19) (N := some 64) (v := ?_) (a' := ?_) #[true, true, true, true, true, true, true, false, false, true, true, true, true, true, true, false, false, true, true, true, false, false, false, false, false, false] rfl rfl (any_of HT_.out (by kernel_rfl)) (fun _ _ _ h => h) (Or.inl ⟨by rfl, ?_⟩) ?_ ?_
              rotate_left
              · intro w'
                go_simp
                with_reducible rfl
              rotate_left
              · simp only [Act.put, List.setIfInBounds_toArray, List.set_cons_zero, List.set_cons_succ, i64_w, i32_w]
                rfl
              refine pure_ (i := 20) (N := some 65) (v := ?_) (a' := ?_) #[true, true, true, true, true, true, true, false, false, true, true, true, true, true, true, false, false, true, true, true, true, false, false, false, false, false] rfl rfl (any_of HT_.out (by kernel_rfl)) (fun _ _ _ h => h) (Or.inl ⟨by rfl, ?_⟩) ?_ ?_
              rotate_left
              · intro w'
                go_simp
                with_reducible rfl
              rotate_left
              · simp only [Act.put, List.setIfInBounds_toArray, List.set_cons_zero, List.set_cons_succ, i64_w, i32_w]
                rfl
              refine take_ (i := 7) (N := some 52) (v := ?_) (a' := ?_) #[true, true, true, true, true, true, true, true, false, true, true, true, true, true, true, false, false, true, true, true, true, false, false, false, false, false] rfl rfl (take_ofW HT_.out HW_.out (by kernel_rfl)) (fun _ _ _ h => h) (Or.inl ⟨by rfl, ?_⟩) hHeld ?_ ?_
              rotate_left
              · rintro w' ⟨s0, s1, s2, s3, s4, s5, s6, s7, s8⟩
                go_simp
                with_reducible rfl
              rotate_left
              · simp only [Act.put, List.setIfInBounds_toArray, List.set_cons_zero, List.set_cons_succ, i64_w, i32_w]
                rfl
              refine pure_ (i := 8) (N := some 53) (v := ?_) (a' := ?_) #[true, true, true, true, true, true, true, true, true, true, true, true, true, true, true, false, false, true, true, true, true, false, false, false, false, false] rfl rfl (any_of HT_.out (by kernel_rfl)) (fun _ _ _ h => h) (Or.inl ⟨by rfl, ?_⟩) ?_ ?_
              rotate_left
              · intro w'
                go_simp
                with_reducible rfl
              rotate_left
              · simp only [Act.put, List.setIfInBounds_toArray, List.set_cons_zero, List.set_cons_succ, i64_w, i32_w]
                rfl
              refine take_ (i := 15) (N := some 60) (v := ?_) (a' := ?_) #[true, true, true, true, true, true, true, true, true, true, true, true, true, true, true, true, false, true, true, true, true, false, false, false, false, false] rfl rfl (take_ofW HT_.out HW_.out (by kernel_rfl)) (fun _ _ _ h => h) (Or.inl ⟨by rfl, ?_⟩) hHeld ?_ ?_
              rotate_left
              · rintro w' ⟨s0, s1, s2, s3, s4, s5, s6, s7, s8⟩
                go_simp
                with_reducible rfl
              rotate_left
              · simp only [Act.put, List.setIfInBounds_toArray, List.set_cons_zero, List.set_cons_succ, i64_w, i32_w]
                rfl
              refine pure_ (i := 16) (N := some 61) (v := ?_) (a' := ?_) #[true, true, true, true, true, true, true, true, true, true, true, true, true, true, true, true, true, true, true, true, true, false, false, false, false, false] rfl rfl (any_of HT_.out (by kernel_rfl)) (fun _ _ _ h => h) (Or.inl ⟨by rfl, ?_⟩) ?_ ?_
              rotate_left
              · intro w'
                go_simp
                with_reducible rfl
              rotate_left
              · simp only [Act.put, List.setIfInBounds_toArray, List.set_cons_zero, List.set_cons_succ, i64_w, i32_w]
                rfl
              refine take_ (i := 21) (N := some 66) (v := ?_) (a' := ?_) #[true, true, true, true, true, true, true, true, true, true, true, true, true, true, true, true, true, true, true, true, true, true, false, false, false, false] rfl rfl (take_ofW HT_.out HW_.out (by kernel_rfl)) (fun _ _ _ h => h) (Or.inl ⟨by rfl, ?_⟩) hHeld ?_ ?_
              rotate_left
              · rintro w' ⟨s0, s1, s2, s3, s4, s5, s6, s7, s8⟩
                go_simp
                with_reducible rfl
              rotate_left
              · simp only [Act.put, List.setIfInBounds_toArray, List.set_cons_zero, List.set_cons_succ, i64_w, i32_w]
                rfl
              refine pure_ (i := 22) (N := some 67) (v := ?_) (a' := ?_) #[true, true, true, true, true, true, true, true, true, true, true, true, true, true, true, true, true, true, true, true, true, true, true, false, false, false] rfl rfl (any_of HT_.out (by kernel_rfl)) (fun _ _ _ h => h) (Or.inl ⟨by rfl, ?_⟩) ?_ ?_
              rotate_left
              · intro w'
                go_simp
                with_reducible rfl
              rotate_left
              · simp only [Act.put, List.setIfInBounds_toArray, List.set_cons_zero, List.set_cons_succ, i64_w, i32_w]
                rfl
              refine last_ (i := 23) (N := some 68) #[true, true, true, true, true, true, true, true, true, true, true, true, true, true, true, true, true, true, true, true, true, true, true, true, false, false] rfl rfl (one_of HT_.out (by kernel_rfl)) (by decide) (fun K hK => ?_)
              refine value_ (w1 := ?_) (v := ?_) (by rfl) rfl ?_ ?_
              rotate_left 2
              · go_simp
                constructor
                · rfl
                · rfl
              refine hK.out _ _ ?_
              clear hK K
              refine norm_ (a' := ?_) ?_ ?_
              rotate_left
              · show Act.put _ (some 68) _ = _
                simp only [Act.put, List.setIfInBounds_toArray, List.set_cons_zero, List.set_cons_succ, i64_w, i32_w]
                rfl
              refine last_ (i := 24) (N := some 69) #[true, true, true, true, true, true, true, true, true, true, true, true, true, true, true, true, true, true, true, true, true, true, true, true, true, false] rfl rfl (one_of HT_.out (by kernel_rfl)) (by decide) (fun K hK => ?_)
              refine Kd.R_append_step k47 (w0 := w) w.heap.size (by rfl) (.tmp 45) (.tmp 68) 22 47 (.agg #[(.int .i64 0), (.int .i64 0), (.int .i64 0)]) 24 rfl Try.underlying22 info47 rfl (by decide) (by omega) u10 x10_1 (⟨wrap64 ((t286.length : Int) - ((rd_T47 y295 x13_1).f1)), wrap64 ((t286.length : Int) - ((rd_T47 y295 x13_1).f0)), (rd_T47 y295 x13_1).f2⟩ : S47) [.int .i64 (wrap64 ((t286.length : Int) - ((rd_T47 y295 x13_1).f1))), .int .i64 (wrap64 ((t286.length : Int) - ((rd_T47 y295 x13_1).f0))), .int .i64 ((rd_T47 y295 x13_1).f2)] (fun k_ => some k_ ≠ (.slice (some ⟨go13, 0, none⟩) x8_1.length co16 : Value).ownBlock ∧ some k_ ≠ (u11 : Value).ownBlock) (fun _ => False) rfl rfl ?aP (fun _ hk => hk.elim) ?aF ?aO ?aB ?aS ?aL ?_
              (case aP => exact k47_mkM _ _ _ (⟨wrap64 ((t286.length : Int) - ((rd_T47 y295 x13_1).f1)), wrap64 ((t286.length : Int) - ((rd_T47 y295 x13_1).f0)), (rd_T47 y295 x13_1).f2⟩ : S47))
              (case aB => exact (by repeat (first | (with_reducible first | exact HB.out | apply below_alloc | apply pw_below_drewN | apply below_drew1) | exact HB.out)))
              (case aF => exact (fun k_ hk => ⟨Kd.fresh' (Kd.R_lt (by (with_reducible repeat (first | apply Kd.R_alloc | apply Kd.R_drewN | apply Kd.R_drew)); exact HO_8.out)) k_ hk, Kd.fresh' (Kd.R_lt (by (with_reducible repeat (first | apply Kd.R_alloc | apply Kd.R_drewN | apply Kd.R_drew)); exact HO_11.out)) k_ hk⟩))
              (case aO => exact (by (with_reducible repeat (first | apply Kd.R_alloc | apply Kd.R_drewN | apply Kd.R_drew)); exact Kd.R_mono HO_10.out (fun _ hk => (by first | exact ⟨hk.2, hk.1⟩ | exact hk))))
              (case aS => exact (below_size (by repeat (first | (with_reducible first | exact HB.out | apply below_alloc | apply pw_below_drewN | apply below_drew1) | exact HB.out))))
              (case aL => have := LMc14.out; omega)
              intro v300 w20 ho hb hg hat
              rw [← Ny299.out] at ho
              have n0_ := Aside0.mk (Kd.R_over' (by (with_reducible repeat (first | apply Kd.R_alloc | apply Kd.R_drewN | apply Kd.R_drew)); exact HO_7.out) (Kd.R_typed (by (with_reducible repeat (first | apply Kd.R_alloc | apply Kd.R_drewN | apply Kd.R_drew)); exact HO_10.out)) (by decide) hg)
              have n1_ := Aside0.mk (Kd.R_after (ok := (fun k_ => some k_ ≠ (u11 : Value).ownBlock)) (by (with_reducible repeat (first | apply Kd.R_alloc | apply Kd.R_drewN | apply Kd.R_drew)); exact Kd.R_mono HO_8.out (fun _ hk => (by first | exact ⟨hk.2, hk.1⟩ | exact hk))) hg hat)
              have n2_ := Aside0.mk (Kd.R_after (ok := (fun k_ => some k_ ≠ (.slice (some ⟨go13, 0, none⟩) x8_1.length co16 : Value).ownBlock)) (by (with_reducible repeat (first | apply Kd.R_alloc | apply Kd.R_drewN | apply Kd.R_drew)); exact Kd.R_mono HO_11.out (fun _ hk => (by first | exact ⟨hk.2, hk.1⟩ | exact hk))) hg hat)
              have n3_ := Aside0.mk (hb)
              have n4_ := Aside0.mk (ho)
              clear HO_7
              clear HO_8
              clear HO_11
              clear HB
              clear HO_10
              have HO_7 := n0_
              have HO_8 := n1_
              have HO_11 := n2_
              have HB := n3_
              have HO301 := n4_
              clear n0_ n1_ n2_ n3_ n4_
              clear ho hb hg hat
              refine hK.out _ _ ?_
              clear hK K
              refine norm_ (a' := ?_) ?_ ?_
              rotate_left
              · show Act.put _ (some 69) _ = _
                simp only [Act.put, List.setIfInBounds_toArray, List.set_cons_zero, List.set_cons_succ, i64_w, i32_w]
                rfl
              refine pure_ (i := 25) (N := some 10) (v := ?_) (a' := ?_) #[true, true, true, true, true, true, true, true, true, true, true, true, true, true, true, true, true, true, true, true, true, true, true, true, true, true] rfl rfl (any_of HT_.out (by kernel_rfl)) (fun _ _ _ h => h) (Or.inl ⟨by rfl, ?_⟩) ?_ ?_
              rotate_left
              · intro w'
                go_simp
                with_reducible rfl
              rotate_left
              · simp only [Act.put, List.setIfInBounds_toArray, List.set_cons_zero, List.set_cons_succ, i64_w, i32_w]
                rfl
              refine done_ (done_of HT_.out (by kernel_rfl)) ?_
              try go_wp2
              have n0_ := Aside0.mk (Kd.R_drew HO_7.out)
              have n1_ := Aside0.mk (Kd.R_drew HO_8.out)
              have n2_ := Aside0.mk (Kd.R_drew HO_11.out)
              have n3_ := Aside0.mk (Kd.R_drew HO301.out)
              have n4_ := Aside0.mk (below_drew1 HB.out)
              clear HO_7
              clear HO_8
              clear HO_11
              clear HO301
              clear HB
              have HO_7 := n0_
              have HO_8 := n1_
              have HO_11 := n2_
              have HO301 := n3_
              have HB := n4_
              clear n0_ n1_ n2_ n3_ n4_
              have p302 : 0 ≤ (x13_1 : Int) := of_decide_eq_true (by first | (with_reducible assumption) | assumption)
              have q302 : x13_1 < (y295.length : Int) := (by have h_ : (x13_1 : Int) < ((x8_1.length : Int) : Int) := of_decide_eq_true (by first | (with_reducible assumption) | assumption); first | (have e_ := (Kd.R_reads' HO_8.out).1; omega) | simpa only [Ny295.out, List.length_set] using h_)
              have ql302 : ((x13_1 : Int) < ((x8_1.length : Int) : Int)) = True := eq_true (of_decide_eq_true (by first | (with_reducible assumption) | assumption))
              obtain ⟨ad302, e302, hx302_0, hx302_1, hx302_2⟩ := at_T47 (Kd.R_reads' HO_8.out).2.2 x13_1 p302 q302
              obtain rfl : (⟨go13, 0, none⟩ : Addr) = ad302 := (by injection e302)
              (first | simp only [add_plain] at hx302_0 | simp only [add_at] at hx302_0 | simp only [Addr.add, Nat.zero_add] at hx302_0 | skip)
              (first | simp only [add_plain] at hx302_1 | simp only [add_at] at hx302_1 | simp only [Addr.add, Nat.zero_add] at hx302_1 | skip)
              (first | simp only [add_plain] at hx302_2 | simp only [add_at] at hx302_2 | simp only [Addr.add, Nat.zero_add] at hx302_2 | skip)
              replace p302 := eq_true p302
              replace q302 := eq_true q302
              have p303 : 0 ≤ (x13_1 : Int) := of_decide_eq_true (by first | (with_reducible assumption) | assumption)
              have q303 : x13_1 < (y295.length : Int) := (by have h_ : (x13_1 : Int) < ((x8_1.length : Int) : Int) := of_decide_eq_true (by first | (with_reducible assumption) | assumption); first | (have e_ := (Kd.R_reads' HO_8.out).1; omega) | simpa only [Ny295.out, List.length_set] using h_)
              have ql303 : ((x13_1 : Int) < ((x8_1.length : Int) : Int)) = True := eq_true (of_decide_eq_true (by first | (with_reducible assumption) | assumption))
              obtain ⟨ad303, e303, hx303_0, hx303_1, hx303_2⟩ := at_T47 (Kd.R_reads' HO_8.out).2.2 x13_1 p303 q303
              obtain rfl : (⟨go13, 0, none⟩ : Addr) = ad303 := (by injection e303)
              (first | simp only [add_plain] at hx303_0 | simp only [add_at] at hx303_0 | simp only [Addr.add, Nat.zero_add] at hx303_0 | skip)
              (first | simp only [add_plain] at hx303_1 | simp only [add_at] at hx303_1 | simp only [Addr.add, Nat.zero_add] at hx303_1 | skip)
              (first | simp only [add_plain] at hx303_2 | simp only [add_at] at hx303_2 | simp only [Addr.add, Nat.zero_add] at hx303_2 | skip)
              replace p303 := eq_true p303
              replace q303 := eq_true q303
              have p304 : 0 ≤ (x13_1 : Int) := of_decide_eq_true (by first | (with_reducible assumption) | assumption)
              have q304 : x13_1 < (y295.length : Int) := (by have h_ : (x13_1 : Int) < ((x8_1.length : Int) : Int) := of_decide_eq_true (by first | (with_reducible assumption) | assumption); first | (have e_ := (Kd.R_reads' HO_8.out).1; omega) | simpa only [Ny295.out, List.length_set] using h_)
              have ql304 : ((x13_1 : Int) < ((x8_1.length : Int) : Int)) = True := eq_true (of_decide_eq_true (by first | (with_reducible assumption) | assumption))
              obtain ⟨ad304, e304, hx304_0, hx304_1, hx304_2⟩ := at_T47 (Kd.R_reads' HO_8.out).2.2 x13_1 p304 q304
              obtain rfl : (⟨go13, 0, none⟩ : Addr) = ad304 := (by injection e304)
              (first | simp only [add_plain] at hx304_0 | simp only [add_at] at hx304_0 | simp only [Addr.add, Nat.zero_add] at hx304_0 | skip)
              (first | simp only [add_plain] at hx304_1 | simp only [add_at] at hx304_1 | simp only [Addr.add, Nat.zero_add] at hx304_1 | skip)
              (first | simp only [add_plain] at hx304_2 | simp only [add_at] at hx304_2 | simp only [Addr.add, Nat.zero_add] at hx304_2 | skip)
              replace p304 := eq_true p304
              replace q304 := eq_true q304
              refine start_ (n := 22) (S := fun w' => w'.cell? ⟨go13, (x13_1).toNat * 3, none⟩ = some (.int .i64 ((rd_T47 y295 x13_1).f0)) ∧ w'.cell? ⟨go13, (x13_1).toNat * 3 + 1, none⟩ = some (.int .i64 ((rd_T47 y295 x13_1).f1)) ∧ w'.cell? ⟨go13, (x13_1).toNat * 3 + 2, none⟩ = some (.int .i64 ((rd_T47 y295 x13_1).f2)) ∧ w'.cell? ⟨go13, (x13_1).toNat * 3, none⟩ = some (.int .i64 ((rd_T47 y295 x13_1).f0)) ∧ w'.cell? ⟨go13, (x13_1).toNat * 3 + 1, none⟩ = some (.int .i64 ((rd_T47 y295 x13_1).f1)) ∧ w'.cell? ⟨go13, (x13_1).toNat * 3 + 2, none⟩ = some (.int .i64 ((rd_T47 y295 x13_1).f2)) ∧ w'.cell? ⟨go13, (x13_1).toNat * 3, none⟩ = some (.int .i64 ((rd_T47 y295 x13_1).f0)) ∧ w'.cell? ⟨go13, (x13_1).toNat * 3 + 1, none⟩ = some (.int .i64 ((rd_T47 y295 x13_1).f1)) ∧ w'.cell? ⟨go13, (x13_1).toNat * 3 + 2, none⟩ = some (.int .i64 ((rd_T47 y295 x13_1).f2))) (ds := [19, 20]) #[false, false, false, false, false, false, false, false, false, false, false, false, false, false, false, false, false, false, false, false, false, false] (by kernel_rfl) rfl rfl ⟨hx302_0, hx302_1, hx302_2, hx303_0, hx303_1, hx303_2, hx304_0, hx304_1, hx304_2⟩ (fun hHeld => ?_); refine with_tabW turndownlaw08_RoomsTurned.tab11 turndownlaw08_RoomsTurned.bits11 (fun HT_ HW_ => ?_)
              generalize w20.drew = w21 at HO_7 HO_8 HO_11 HO301 HB hx302_0 hx302_1 hx302_2 hx303_0 hx303_1 hx303_2 hx304_0 hx304_1 hx304_2 hHeld ⊢
              refine pure_ (i := 0) (N := some 70) (v := ?_) (a' := ?_) #[true, false, false, false, false, false, false, false, false, false, false, false, false, false, false, false, false, false, false, false, false, false] rfl rfl (any_of HT_.out (by kernel_rfl)) (fun _ _ _ h => h) (Or.inl ⟨by rfl, ?_⟩) ?_ ?_
              rotate_left
              · intro w'
                go_simp
                with_reducible rfl
              rotate_left
              · simp only [Act.put, List.setIfInBounds_toArray, List.set_cons_zero, List.set_cons_succ, i64_w, i32_w]
                rfl
              refine pure_ (i := 1) (N := some 71) (v := ?_) (a' := ?_) #[true, true, false, false, false, false, false, false, false, false, false, false, false, false, false, false, false, false, false, false, false, false] rfl rfl (any_of HT_.out (by kernel_rfl)) (fun _ _ _ h => h) (Or.inl ⟨by rfl, ?_⟩) ?_ ?_
              rotate_left
              · intro w'
                go_simp
                with_reducible rfl
              rotate_left
              · simp only [Act.put, List.setIfInBounds_toArray, List.set_cons_zero, List.set_cons_succ, i64_w, i32_w]
                rfl
              refine pure_ (i := 2) (N := some 72) (v := ?_) (a' := ?_) #[true, true, true, false, false, false, false, false, false, false, false, false, false, false, false, false, false, false, false, false, false, false] rfl rfl (any_of HT_.out (by kernel_rfl)) (fun _ _ _ h => h) (Or.inl ⟨by rfl, ?_⟩) ?_ ?_
              rotate_left
              · intro w'
                go_simp
                with_reducible rfl
              rotate_left
              · simp only [Act.put, List.setIfInBounds_toArray, List.set_cons_zero, List.set_cons_succ, i64_w, i32_w]
                rfl
              refine pure_ (i := 3) (N := some 73) (v := ?_) (a' := ?_) #[true, true, true, true, false, false, false, false, false, false, false, false, false, false, false, false, false, false, false, false, false, false] rfl rfl (any_of HT_.out (by kernel_rfl)) (fun _ _ _ h => h) (Or.inl ⟨by rfl, ?_⟩) ?_ ?_
              rotate_left
              · intro w'
                go_simp
                with_reducible rfl
              rotate_left
              · simp only [Act.put, List.setIfInBounds_toArray, List.set_cons_zero, List.set_cons_succ, i64_w, i32_w]
                rfl
              refine pure_ (i := 4) (N := some 74) (v := ?_) (a' := ?_) #[true, true, true, true, true, false, false, false, false, false, false, false, false, false, false, false, false, false, false, false, false, false] rfl rfl (any_of HT_.out (by kernel_rfl)) (fun _ _ _ h => h) (Or.inl ⟨by rfl, ?_⟩) ?_ ?_
              rotate_left
              · intro w'
                go_simp
                with_reducible rfl
              rotate_left
              · simp only [Act.put, List.setIfInBounds_toArray, List.set_cons_zero, List.set_cons_succ, i64_w, i32_w]
                rfl
              refine pure_ (i := 6) (N := some 76) (v := ?_) (a' := ?_) #[true, true, true, true, true, false, true, false, false, false, false, false, false, false, false, false, false, false, false, false, false, false] rfl rfl (any_of HT_.out (by kernel_rfl)) (fun _ _ _ h => h) (Or.inl ⟨by rfl, ?_⟩) ?_ ?_
              rotate_left
              · intro w'
                go_simp
                with_reducible rfl
              rotate_left
              · simp only [Act.put, List.setIfInBounds_toArray, List.set_cons_zero, List.set_cons_succ, i64_w, i32_w]
                rfl
              refine pure_ (i := 7) (N := some 77) (v := ?_) (a' := ?_) #[true, true, true, true, true, false, true, true, false, false, false, false, false, false, false, false, false, false, false, false, false, false] rfl rfl (any_of HT_.out (by kernel_rfl)) (fun _ _ _ h => h) (Or.inl ⟨by rfl, ?_⟩) ?_ ?_
              rotate_left
              · intro w'
                go_simp
                with_reducible rfl
              rotate_left
              · simp only [Act.put, List.setIfInBounds_toArray, List.set_cons_zero, List.set_cons_succ, i64_w, i32_w]
                rfl
              refine pure_ (i := 8) (N := some 78) (v := ?_) (a' := ?_) #[true, true, true, true, true, false, true, true, true, false, false, false, false, false, false, false, false, false, false, false, false, false] rfl rfl (any_of HT_.out (by kernel_rfl)) (fun _ _ _ h => h) (Or.inl ⟨by rfl, ?_⟩) ?_ ?_
              rotate_left
              · intro w'
                go_simp
                with_reducible rfl
              rotate_left
              · simp only [Act.put, List.setIfInBounds_toArray, List.set_cons_zero, List.set_cons_succ, i64_w, i32_w]
                rfl
              refine pure_ (i := 9) (N := some 79) (v := ?_) (a' := ?_) #[true, true, true, true, true, false, true, true, true, true, false, false, false, false, false, false, false, false, false, false, false, false] rfl rfl (any_of HT_.out (by kernel_rfl)) (fun _ _ _ h => h) (Or.inl ⟨by rfl, ?_⟩) ?_ ?_
              rotate_left
              · intro w'
                go_simp
                with_reducible rfl
              rotate_left
              · simp only [Act.put, List.setIfInBounds_toArray, List.set_cons_zero, List.set_cons_succ, i64_w, i32_w]
                rfl
              refine pure_ (i := 11) (N := some 81) (v := ?_) (a' := ?_) #[true, true, true, true, true, false, true, true, true, true, false, true, false, false, false, false, false, false, false, false, false, false] rfl rfl (any_of HT_.out (by kernel_rfl)) (fun _ _ _ h => h) (Or.inl ⟨by rfl, ?_⟩) ?_ ?_
              rotate_left
              · intro w'
                go_simp
                with_reducible rfl
              rotate_left
              · simp only [Act.put, List.setIfInBounds_toArray, List.set_cons_zero, List.set_cons_succ, i64_w, i32_w]
                rfl
              refine pure_ (i := 12) (N := some 82) (v := ?_) (a' := ?_) #[true, true, true, true, true, false, true, true, true, true, false, true, true, false, false, false, false, false, false, false, false, false] rfl rfl (any_of HT_.out (by kernel_rfl)) (fun _ _ _ h => h) (Or.inl ⟨by rfl, ?_⟩) ?_ ?_
              rotate_left
              · intro w'
                go_simp
                with_reducible rfl
              rotate_left
              · simp only [Act.put, List.setIfInBounds_toArray, List.set_cons_zero, List.set_cons_succ, i64_w, i32_w]
                rfl
              refine pure_ (i := 13) (N := some 83) (v := ?_) (a' := ?_) #[true, true, true, true, true, false, true, true, true, true, false, true, true, true, false, false, false, false, false, false, false, false] rfl rfl (any_of HT_.out (by kernel_rfl)) (fun _ _ _ h => h) (Or.inl ⟨by rfl, ?_⟩) ?_ ?_
              rotate_left
              · intro w'
                go_simp
                with_reducible rfl
              rotate_left
              · simp only [Act.put, List.setIfInBounds_toArray, List.set_cons_zero, List.set_cons_succ, i64_w, i32_w]
                rfl
              refine pure_ (i := 14) (N := some 84) (v := ?_) (a' := ?_) #[true, true, true, true, true, false, true, true, true, true, false, true, true, true, true, false, false, false, false, false, false, false] rfl rfl (any_of HT_.out (by kernel_rfl)) (fun _ _ _ h => h) (Or.inl ⟨by rfl, ?_⟩) ?_ ?_
              rotate_left
              · intro w'
                go_simp
                with_reducible rfl
              rotate_left
              · simp only [Act.put, List.setIfInBounds_toArray, List.set_cons_zero, List.set_cons_succ, i64_w, i32_w]
                rfl
              refine pure_ (i := 15) (N := some 85) (v := ?_) (a' := ?_) #[true, true, true, true, true, false, true, true, true, true, false, true, true, true, true, true, false, false, false, false, false, false] rfl rfl (any_of HT_.out (by kernel_rfl)) (fun _ _ _ h => h) (Or.inl ⟨by rfl, ?_⟩) ?_ ?_
              rotate_left
              · intro w'
                go_simp
                with_reducible rfl
              rotate_left
              · simp only [Act.put, List.setIfInBounds_toArray, List.set_cons_zero, List.set_cons_succ, i64_w, i32_w]
                rfl
              refine take_ (i := 5) (N := some 75) (v := ?_) (a' := ?_) #[true, true, true, true, true, true, true, true, true, true, false, true, true, true, true, true, false, false, false, false, false, false] rfl rfl (take_ofW HT_.out HW_.out (by kernel_rfl)) (fun _ _ _ h => h) (Or.inl ⟨by rfl, ?_⟩) hHeld ?_ ?_
              rotate_left
              · rintro w' ⟨s0, s1, s2, s3, s4, s5, s6, s7, s8⟩
                go_simp
                with_reducible rfl
              rotate_left
              · simp only [Act.put, List.setIfInBounds_toArray, List.set_cons_zero, List.set_cons_succ, i64_w, i32_w]
                rfl
              refine take_ (i := 10) (N := some 80) (v := ?_) (a' := ?_) #[true, true, true, true, true, true, true, true, true, true, true, true, true, true, true, true, false, false, false, false, false, false] rfl rfl (take_ofW HT_.out HW_.out (by kernel_rfl)) (fun _ _ _ h => h) (Or.inl ⟨by rfl, ?_⟩) hHeld ?_ ?_
              rotate_left
              · rintro w' ⟨s0, s1, s2, s3, s4, s5, s6, s7, s8⟩
                go_simp
                with_reducible rfl
              rotate_left
              · simp only [Act.put, List.setIfInBounds_toArray, List.set_cons_zero, List.set_cons_succ, i64_w, i32_w]
                rfl
              refine take_ (i := 16) (N := some 86) (v := ?_) (a' := ?_) #[true, true, true, true, true, true, true, true, true, true, true, true, true, true, true, true, true, false, false, false, false, false] rfl rfl (take_ofW HT_.out HW_.out (by kernel_rfl)) (fun _ _ _ h => h) (Or.inl ⟨by rfl, ?_⟩) hHeld ?_ ?_
              rotate_left
              · rintro w' ⟨s0, s1, s2, s3, s4, s5, s6, s7, s8⟩
                go_simp
                with_reducible rfl
              rotate_left
              · simp only [Act.put, List.setIfInBounds_toArray, List.set_cons_zero, List.set_cons_succ, i64_w, i32_w]
                rfl
              refine pure_ (i := 17) (N := some 87) (v := ?_) (a' := ?_) #[true, true, true, true, true, true, true, true, true, true, true, true, true, true, true, true, true, true, false, false, false, false] rfl rfl (any_of HT_.out (by kernel_rfl)) (fun _ _ _ h => h) (Or.inl ⟨by rfl, ?_⟩) ?_ ?_
              rotate_left
              · intro w'
                go_simp
                with_reducible rfl
              rotate_left
              · simp only [Act.put, List.setIfInBounds_toArray, List.set_cons_zero, List.set_cons_succ, i64_w, i32_w]
                rfl
              refine pure_ (i := 18) (N := some 88) (v := ?_) (a' := ?_) #[true, true, true, true, true, true, true, true, true, true, true, true, true, true, true, true, true, true, true, false, false, false] rfl rfl (any_of HT_.out (by kernel_rfl)) (fun _ _ _ h => h) (Or.inl ⟨by rfl, ?_⟩) ?_ ?_
              rotate_left
              · intro w'
                go_simp
                with_reducible rfl
              rotate_left
              · simp only [Act.put, List.setIfInBounds_toArray, List.set_cons_zero, List.set_cons_succ, i64_w, i32_w]
                rfl
              refine last_ (i := 19) (N := some 89) #[true, true, true, true, true, true, true, true, true, true, true, true, true, true, true, true, true, true, true, true, false, false] rfl rfl (one_of HT_.out (by kernel_rfl)) (by decide) (fun K hK => ?_)
              refine value_ (w1 := ?_) (v := ?_) (by rfl) rfl ?_ ?_
              rotate_left 2
              · go_simp
                constructor
                · rfl
                · rfl
              refine hK.out _ _ ?_
              clear hK K
              refine norm_ (a' := ?_) ?_ ?_
              rotate_left
              · show Act.put _ (some 89) _ = _
                simp only [Act.put, List.setIfInBounds_toArray, List.set_cons_zero, List.set_cons_succ, i64_w, i32_w]
                rfl
              refine last_ (i := 20) (N := some 90) #[true, true, true, true, true, true, true, true, true, true, true, true, true, true, true, true, true, true, true, true, true, false] rfl rfl (one_of HT_.out (by kernel_rfl)) (by decide) (fun K hK => ?_)
              refine Kd.R_append_step k47 (w0 := w) w.heap.size (by rfl) (.tmp 70) (.tmp 89) 22 47 (.agg #[(.int .i64 0), (.int .i64 0), (.int .i64 0)]) 24 rfl Try.underlying22 info47 rfl (by decide) (by omega) u11 x11_1 (⟨(rd_T47 y295 x13_1).f0, (rd_T47 y295 x13_1).f1, wrap64 ((wrap64 (1 + t292)) * ((rd_T47 y295 x13_1).f2))⟩ : S47) [.int .i64 ((rd_T47 y295 x13_1).f0), .int .i64 ((rd_T47 y295 x13_1).f1), .int .i64 (wrap64 ((wrap64 (1 + t292)) * ((rd_T47 y295 x13_1).f2)))] (fun k_ => some k_ ≠ (.slice (some ⟨go13, 0, none⟩) x8_1.length co16 : Value).ownBlock ∧ some k_ ≠ (v300 : Value).ownBlock) (fun _ => False) rfl rfl ?aP (fun _ hk => hk.elim) ?aF ?aO ?aB ?aS ?aL ?_
              (case aP => exact k47_mkM _ _ _ (⟨(rd_T47 y295 x13_1).f0, (rd_T47 y295 x13_1).f1, wrap64 ((wrap64 (1 + t292)) * ((rd_T47 y295 x13_1).f2))⟩ : S47))
              (case aB => exact (by repeat (first | (with_reducible first | exact HB.out | apply below_alloc | apply pw_below_drewN | apply below_drew1) | exact HB.out)))
              (case aF => exact (fun k_ hk => ⟨Kd.fresh' (Kd.R_lt (by (with_reducible repeat (first | apply Kd.R_alloc | apply Kd.R_drewN | apply Kd.R_drew)); exact HO_8.out)) k_ hk, Kd.fresh' (Kd.R_lt (by (with_reducible repeat (first | apply Kd.R_alloc | apply Kd.R_drewN | apply Kd.R_drew)); exact HO301.out)) k_ hk⟩))
              (case aO => exact (by (with_reducible repeat (first | apply Kd.R_alloc | apply Kd.R_drewN | apply Kd.R_drew)); exact HO_11.out))
              (case aS => exact (below_size (by repeat (first | (with_reducible first | exact HB.out | apply below_alloc | apply pw_below_drewN | apply below_drew1) | exact HB.out))))
              (case aL => have := LMc15.out; omega)
              intro v306 w22 ho hb hg hat
              rw [← Ny305.out] at ho
              have n0_ := Aside0.mk (Kd.R_over' (by (with_reducible repeat (first | apply Kd.R_alloc | apply Kd.R_drewN | apply Kd.R_drew)); exact HO_7.out) (Kd.R_typed (by (with_reducible repeat (first | apply Kd.R_alloc | apply Kd.R_drewN | apply Kd.R_drew)); exact HO_11.out)) (by decide) hg)
              have n1_ := Aside0.mk (Kd.R_after (ok := (fun k_ => some k_ ≠ (v300 : Value).ownBlock)) (by (with_reducible repeat (first | apply Kd.R_alloc | apply Kd.R_drewN | apply Kd.R_drew)); exact Kd.R_mono HO_8.out (fun _ hk => (by first | exact ⟨hk.2, hk.1⟩ | exact hk))) hg hat)
              have n2_ := Aside0.mk (Kd.R_after (ok := (fun k_ => some k_ ≠ (.slice (some ⟨go13, 0, none⟩) x8_1.length co16 : Value).ownBlock)) (by (with_reducible repeat (first | apply Kd.R_alloc | apply Kd.R_drewN | apply Kd.R_drew)); exact HO301.out) hg hat)
              have n3_ := Aside0.mk (hb)
              have n4_ := Aside0.mk (ho)
              clear HO_7
              clear HO_8
              clear HO301
              clear HB
              clear HO_11
              have HO_7 := n0_
              have HO_8 := n1_
              have HO301 := n2_
              have HB := n3_
              have HO307 := n4_
              clear n0_ n1_ n2_ n3_ n4_
              clear ho hb hg hat
              refine hK.out _ _ ?_
              clear hK K
              refine norm_ (a' := ?_) ?_ ?_
              rotate_left
              · show Act.put _ (some 90) _ = _
                simp only [Act.put, List.setIfInBounds_toArray, List.set_cons_zero, List.set_cons_succ, i64_w, i32_w]
                rfl
              refine pure_ (i := 21) (N := some 11) (v := ?_) (a' := ?_) #[true, true, true, true, true, true, true, true, true, true, true, true, true, true, true, true, true, true, true, true, true, true] rfl rfl (any_of HT_.out (by kernel_rfl)) (fun _ _ _ h => h) (Or.inl ⟨by rfl, ?_⟩) ?_ ?_
              rotate_left
              · intro w'
                go_simp
                with_reducible rfl
              rotate_left
              · simp only [Act.put, List.setIfInBounds_toArray, List.set_cons_zero, List.set_cons_succ, i64_w, i32_w]
                rfl
              refine done_ (done_of HT_.out (by kernel_rfl)) ?_
              try go_wp2
              go_roundg k1
              case measure => have := HK1.out; omega
              case rel => exact ⟨(y295), (y299), (y305), (wrap64 (x13_1 + 1)), (by first | rfl | (simp; done) | (simp [*]; done)), H', ⟨by have := HK1.out; omega⟩, ⟨by (with_reducible repeat (first | apply Kd.R_alloc | apply Kd.R_drewN | apply Kd.R_drew)); exact HO_7.out⟩, ⟨by (with_reducible repeat (first | apply Kd.R_alloc | apply Kd.R_drewN | apply Kd.R_drew)); exact HO_8.out⟩, ⟨by (with_reducible repeat (first | apply Kd.R_alloc | apply Kd.R_drewN | apply Kd.R_drew)); exact HO301.out⟩, ⟨by (with_reducible repeat (first | apply Kd.R_alloc | apply Kd.R_drewN | apply Kd.R_drew)); exact HO307.out⟩, ⟨by repeat (first | (with_reducible first | exact HB.out | apply below_alloc | apply pw_below_drewN | apply below_drew1) | exact HB.out)⟩⟩
            · rw [if_neg c15] at H
              exact absurd H (by simp)
          · rw [if_neg c14] at H
            exact absurd H (by simp)
        · rw [if_neg c11] at H
          exact absurd H (by simp)
      · rw [if_neg c10] at H
        have c10b0 : decide (x13_1 < (x8_1.length : Int)) = false := decide_eq_false c10
        clear c10
        have H' := Aside0.mk H
        clear H
        obtain ⟨Ao23, co23, eo23⟩ := Kd.R_slice HO_8.out
        subst eo23
        go_wp2
        go_loopg [12, 14] k1 (fun kq v12 v14 w' => ∃ (x12_2 : List Int) (x14_2 : Int), v14 = .int .i64 x14_2 ∧ Aside0 (turndownlaw08_RoomsTurned.l1 kq t286 x8_1 (wrap64 (1 + t292)) x10_1 x11_1 x12_2 x14_2 = some r) ∧ Aside0 (kq ≤ k1) ∧ Aside0 (Kd.R (Kd.int .i64) 3 w' w.heap.size (fun k_ => some k_ ≠ (v12 : Value).ownBlock) (.slice Ao8 t286.length co8) t286) ∧ Aside0 (Kd.R k47 47 w' w.heap.size (fun k_ => some k_ ≠ (u10 : Value).ownBlock ∧ some k_ ≠ (u11 : Value).ownBlock) (.slice Ao23 x8_1.length co23) x8_1) ∧ Aside0 (Kd.R k47 47 w' w.heap.size (fun k_ => some k_ ≠ ((.slice Ao23 x8_1.length co23) : Value).ownBlock ∧ some k_ ≠ (u11 : Value).ownBlock) u10 x10_1) ∧ Aside0 (Kd.R k47 47 w' w.heap.size (fun k_ => some k_ ≠ ((.slice Ao23 x8_1.length co23) : Value).ownBlock ∧ some k_ ≠ (u10 : Value).ownBlock) u11 x11_1) ∧ Aside0 (Kd.R (Kd.int .i64) 3 w' w.heap.size (fun k_ => some k_ ≠ ((.slice Ao8 t286.length co8) : Value).ownBlock) v12 x12_2) ∧ Aside0 (Below w.heap.size w w'))
        case atStart => exact ⟨(([] : List Int)), (wrap64 ((t286.length : Int) - 1)), (by first | rfl | (simp; done) | (simp [*]; done)), H', ⟨Nat.le_refl _⟩, ⟨by (with_reducible repeat (first | apply Kd.R_alloc | apply Kd.R_drewN | apply Kd.R_drew)); exact Kd.R_mono HO_7.out (fun _ hk => (by simp [Value.ownBlock]))⟩, ⟨by (with_reducible repeat (first | apply Kd.R_alloc | apply Kd.R_drewN | apply Kd.R_drew)); exact HO_8.out⟩, ⟨by (with_reducible repeat (first | apply Kd.R_alloc | apply Kd.R_drewN | apply Kd.R_drew)); exact HO_10.out⟩, ⟨by (with_reducible repeat (first | apply Kd.R_alloc | apply Kd.R_drewN | apply Kd.R_drew)); exact HO_11.out⟩, ⟨by first | exact Kd.R_nil _ _ _ _ _ | exact Kd.N_nil _ _ _ _ _ | exact Kd.V_nil _ _ _ _ _ | exact Kd.Q_nil _ _ _ _ _ | exact Kd.S_nil _ _ _ _ _⟩, ⟨by repeat (first | (with_reducible first | exact HB.out | apply below_alloc | apply pw_below_drewN | apply below_drew1) | exact HB.out)⟩⟩
        case round =>
          clear H'
          try clear c1
          try clear p1
          try clear q1
          try clear hx1
          try clear c2
          try clear p2
          try clear q2
          try clear hx2
          try clear p3
          try clear q3
          try clear hx3
          try clear p6
          try clear c10
          try clear c10b0
          try clear c11
          try clear c13
          try clear p13
          try clear q13
          try clear hx13
          try clear hf13
          try clear c14
          try clear c15
          try clear c17
          try clear hx17
          try clear hf17
          try clear hx13_0
          try clear hx13_1
          try clear hx13_2
          try clear hx17_2
          try clear hx293_0
          try clear hx293_1
          try clear hx293_2
          try clear hx296_0
          try clear hx296_1
          try clear hx296_2
          try clear hx297_0
          try clear hx297_1
          try clear hx297_2
          try clear hx298_0
          try clear hx298_1
          try clear hx298_2
          try clear hx302_0
          try clear hx302_1
          try clear hx302_2
          try clear hx303_0
          try clear hx303_1
          try clear hx303_2
          try clear hx304_0
          try clear hx304_1
          try clear hx304_2
          try clear p13
          try clear p293
          try clear p296
          try clear p297
          try clear p298
          try clear p302
          try clear p303
          try clear p304
          try clear q13
          try clear q293
          try clear q296
          try clear q297
          try clear q298
          try clear q302
          try clear q303
          try clear q304
          obtain ⟨x12_2, x14_2, rfl, HA, HK2, HO_7, HO_8, HO_10, HO_11, HO_12, HB⟩ := hrel
          cases gk with
          | zero => exact absurd HA.out (by simp [turndownlaw08_RoomsTurned.l1])
          | succ k2 =>
            have H := HA.out
            clear HA
            simp only [turndownlaw08_RoomsTurned.l1] at H
            by_cases c24 : x14_2 ≥ 0
            · rw [if_pos c24] at H
              have c24b0 : decide (0 ≤ x14_2) = true := decide_eq_true c24
              clear c24
              by_cases c25 : 0 ≤ x14_2
              · rw [if_pos c25] at H
                have c25b0 : decide (0 ≤ x14_2) = true := decide_eq_true c25
                clear c25
                by_cases c26 : x14_2 < (t286.length : Int)
                · rw [if_pos c26] at H
                  have c26b0 : decide (x14_2 < (t286.length : Int)) = true := decide_eq_true c26
                  clear c26
                  by_cases c27 : x12_2.length < 17592186044416
                  · rw [if_pos c27] at H
                    have LMc27 := Aside0.mk c27
                    clear c27
                    obtain ⟨y309, hy309⟩ : ∃ y_ : List Int, y_ = (x12_2 ++ [rd t286 x14_2]) := ⟨_, rfl⟩
                    replace H : (turndownlaw08_RoomsTurned.l1 k2 t286 x8_1 (wrap64 (1 + t292)) x10_1 x11_1 y309 (wrap64 (x14_2 - 1))) = some r := by first | (rw [hy309]; with_reducible exact H) | (have H2_ := (Option.bind_some _ _).symm.trans H; rw [hy309]; with_reducible exact H2_) | (have H2_ := (Option.bind_some _ _).symm.trans H; with_reducible exact H2_) | with_reducible exact H | (rw [hy309]; exact H) | exact H
                    have Ny309 := Aside0.mk hy309
                    clear hy309
                    have H' := Aside0.mk H
                    clear H
                    have p308 : 0 ≤ (x14_2 : Int) := of_decide_eq_true (by first | (with_reducible assumption) | assumption)
                    have q308 : x14_2 < (t286.length : Int) := of_decide_eq_true (by first | (with_reducible assumption) | assumption)
                    obtain ⟨ad308, e308, hx308_0⟩ := Kd.at_int (Kd.R_reads' HO_7.out).2.2 x14_2 p308 q308
                    cases e308
                    replace p308 := eq_true p308
                    replace q308 := eq_true q308
                    go_wp2_with (first | ((with_reducible refine gate_builtin (b := .append) (xs := #[.tmp 98, .tmp 103]) rfl ?_); at_builtin; refine Kd.R_append (Kd.int .i64) (w0 := w) w.heap.size rfl (.tmp 98) (.tmp 103) 23 3 (.int .i64 0) 8 rfl Try.underlying23 info3 rfl (by decide) (by omega) u12 x12_2 (rd t286 x14_2) [.int .i64 (rd t286 x14_2)] (fun k_ => some k_ ≠ (.slice (some ad308) t286.length co8 : Value).ownBlock) (fun _ => False) rfl rfl ?aP (fun _ hk => hk.elim) ?aF ?aO ?aB ?aS ?aL ?_; (case aP => exact rfl); (case aB => exact (by repeat (first | (with_reducible first | exact HB.out | apply below_alloc | apply pw_below_drewN | apply below_drew1) | exact HB.out))); (case aF => exact (fun k_ hk => Kd.fresh' (Kd.R_lt (by (with_reducible repeat (first | apply Kd.R_alloc | apply Kd.R_drewN | apply Kd.R_drew)); exact HO_7.out)) k_ hk)); (case aO => exact (by (with_reducible repeat (first | apply Kd.R_alloc | apply Kd.R_drewN | apply Kd.R_drew)); exact HO_12.out)); (case aS => exact (below_size (by repeat (first | (with_reducible first | exact HB.out | apply below_alloc | apply pw_below_drewN | apply below_drew1) | exact HB.out)))); (case aL => have := LMc27.out; omega); intro v310 w28 ho hb hg hat; rw [← Ny309.out] at ho; have n0_ := Aside0.mk (Kd.R_after (ok := (fun _ => True)) (by (with_reducible repeat (first | apply Kd.R_alloc | apply Kd.R_drewN | apply Kd.R_drew)); exact Kd.R_mono HO_7.out (fun _ hk => ⟨trivial, hk⟩)) hg hat); have n1_ := Aside0.mk (Kd.R_over' (by (with_reducible repeat (first | apply Kd.R_alloc | apply Kd.R_drewN | apply Kd.R_drew)); exact HO_8.out) (Kd.R_typed (by (with_reducible repeat (first | apply Kd.R_alloc | apply Kd.R_drewN | apply Kd.R_drew)); exact HO_12.out)) (by decide) hg); have n2_ := Aside0.mk (Kd.R_over' (by (with_reducible repeat (first | apply Kd.R_alloc | apply Kd.R_drewN | apply Kd.R_drew)); exact HO_10.out) (Kd.R_typed (by (with_reducible repeat (first | apply Kd.R_alloc | apply Kd.R_drewN | apply Kd.R_drew)); exact HO_12.out)) (by decide) hg); have n3_ := Aside0.mk (Kd.R_over' (by (with_reducible repeat (first | apply Kd.R_alloc | apply Kd.R_drewN | apply Kd.R_drew)); exact HO_11.out) (Kd.R_typed (by (with_reducible repeat (first | apply Kd.R_alloc | apply Kd.R_drewN | apply Kd.R_drew)); exact HO_12.out)) (by decide) hg); have n4_ := Aside0.mk (hb); have n5_ := Aside0.mk (ho); clear HO_7; clear HO_8; clear HO_10; clear HO_11; clear HB; clear HO_12; have HO_7 := n0_; have HO_8 := n1_; have HO_10 := n2_; have HO_11 := n3_; have HB := n4_; have HO311 := n5_; clear n0_ n1_ n2_ n3_ n4_ n5_; clear ho hb hg hat))
                    go_roundg k2
                    case measure => have := HK1.out; have := HK2.out; omega
                    case rel => exact ⟨(y309), (wrap64 (x14_2 - 1)), (by first | rfl | (simp; done) | (simp [*]; done)), H', ⟨by have := HK1.out; have := HK2.out; omega⟩, ⟨by (with_reducible repeat (first | apply Kd.R_alloc | apply Kd.R_drewN | apply Kd.R_drew)); exact Kd.R_mono HO_7.out (fun _ hk => hk.2)⟩, ⟨by (with_reducible repeat (first | apply Kd.R_alloc | apply Kd.R_drewN | apply Kd.R_drew)); exact HO_8.out⟩, ⟨by (with_reducible repeat (first | apply Kd.R_alloc | apply Kd.R_drewN | apply Kd.R_drew)); exact HO_10.out⟩, ⟨by (with_reducible repeat (first | apply Kd.R_alloc | apply Kd.R_drewN | apply Kd.R_drew)); exact HO_11.out⟩, ⟨by (with_reducible repeat (first | apply Kd.R_alloc | apply Kd.R_drewN | apply Kd.R_drew)); exact HO311.out⟩, ⟨by repeat (first | (with_reducible first | exact HB.out | apply below_alloc | apply pw_below_drewN | apply below_drew1) | exact HB.out)⟩⟩
                  · rw [if_neg c27] at H
                    exact absurd H (by simp)
                · rw [if_neg c26] at H
                  exact absurd H (by simp)
              · rw [if_neg c25] at H
                exact absurd H (by simp)
            · rw [if_neg c24] at H
              have c24b0 : decide (0 ≤ x14_2) = false := decide_eq_false c24
              clear c24
              replace H := Option.bind_eq_some_iff.mp H
              obtain ⟨⟨t312, t315, t318, t319⟩, A290, H⟩ := H
              replace H : (if t319 = 0 then ((turndownref08_Fits.f k2 x8_1 t286 t312).bind fun t321 => (turndownlaw08_RoomsTurned.j2 k2 t286 x8_1 (wrap64 (1 + t292)) x10_1 x11_1 x12_2 t318 (!t321) t312 t315)) else (turndownlaw08_RoomsTurned.j2 k2 t286 x8_1 (wrap64 (1 + t292)) x10_1 x11_1 x12_2 t318 true t312 t315)) = some r := H
              have A29 := Aside0.mk A290
              clear A290
              have HC30 := Aside0.mk H
              clear H
              go_upto_region 17 with (first | ((with_reducible refine gate_callee (f := 30) rfl ?_); refine goesL_ (some 108) rfl rfl Try.func30 (by kernel_rfl) rfl #[.slice Ao23 x8_1.length co23, .slice Ao8 t286.length co8] rfl (by (try simp only [List.map_toArray, List.map_cons, List.map_nil]); first | done | rfl | (simp only [List.length_drop, List.length_take]; rfl)) ?_; (with_reducible refine (rooms_Accept.calls k2 _ _ x8_1 _ _ t286 t312 t315 t318 t319 _ ?side1 ?side2 ?side3 ?side4 A29.out).mono ?_); (case side1 => repeat (first | exact (Kd.R_reads' HO_8.out).2.2 | (with_reducible refine Kd.C_alloc ?_ _) | (with_reducible refine Kd.C_drewN ?_ _) | (with_reducible refine Kd.C_drew ?_))); (case side2 => exact (Kd.R_reads' HO_8.out).2.1); (case side3 => repeat (first | exact (Kd.R_reads' HO_7.out).2.2 | (with_reducible refine Kd.C_alloc ?_ _) | (with_reducible refine Kd.C_drewN ?_ _) | (with_reducible refine Kd.C_drew ?_))); (case side4 => exact (Kd.R_reads' HO_7.out).2.1); rintro e w31 ⟨v313, v316, rfl, ho0, ho1, hb⟩; refine ⟨_, rfl, ?_⟩; have n0_ := Aside0.mk (Kd.R_mono (Kd.R_told (Kd.R_told (Kd.R_old (by (with_reducible repeat (first | apply Kd.R_alloc | apply Kd.R_drewN | apply Kd.R_drew)); exact HO_7.out) hb) (Kd.R_base ho0)) (Kd.R_base ho1)) (fun _ h_ => h_.1)); have n1_ := Aside0.mk (Kd.R_below (by (with_reducible repeat (first | apply Kd.R_alloc | apply Kd.R_drewN | apply Kd.R_drew)); exact HO_8.out) hb); have n2_ := Aside0.mk (Kd.R_below (by (with_reducible repeat (first | apply Kd.R_alloc | apply Kd.R_drewN | apply Kd.R_drew)); exact HO_10.out) hb); have n3_ := Aside0.mk (Kd.R_below (by (with_reducible repeat (first | apply Kd.R_alloc | apply Kd.R_drewN | apply Kd.R_drew)); exact HO_11.out) hb); have n4_ := Aside0.mk (Kd.R_mono (Kd.R_told (Kd.R_told (Kd.R_old (by (with_reducible repeat (first | apply Kd.R_alloc | apply Kd.R_drewN | apply Kd.R_drew)); exact HO_12.out) hb) (Kd.R_base ho0)) (Kd.R_base ho1)) (fun _ h_ => h_.1)); have n5_ := Aside0.mk (Kd.R_lower (Kd.R_new' (Kd.R_new' ho0 (Kd.R_lt (by (with_reducible repeat (first | apply Kd.R_alloc | apply Kd.R_drewN | apply Kd.R_drew)); exact HO_7.out))) (Kd.R_lt (by (with_reducible repeat (first | apply Kd.R_alloc | apply Kd.R_drewN | apply Kd.R_drew)); exact HO_12.out))) (below_size (by repeat (first | (with_reducible first | exact HB.out | apply below_alloc | apply pw_below_drewN | apply below_drew1) | exact HB.out)))); have n6_ := Aside0.mk (Kd.R_lower (Kd.R_new' (Kd.R_new' ho1 (Kd.R_lt (by (with_reducible repeat (first | apply Kd.R_alloc | apply Kd.R_drewN | apply Kd.R_drew)); exact HO_7.out))) (Kd.R_lt (by (with_reducible repeat (first | apply Kd.R_alloc | apply Kd.R_drewN | apply Kd.R_drew)); exact HO_12.out))) (below_size (by repeat (first | (with_reducible first | exact HB.out | apply below_alloc | apply pw_below_drewN | apply below_drew1) | exact HB.out)))); have n7_ := Aside0.mk (below_step (by repeat (first | (with_reducible first | exact HB.out | apply below_alloc | apply pw_below_drewN | apply below_drew1) | exact HB.out)) hb); clear HO_7; clear HO_8; clear HO_10; clear HO_11; clear HO_12; clear HB; have HO_7 := n0_; have HO_8 := n1_; have HO_10 := n2_; have HO_11 := n3_; have HO_12 := n4_; have HO314 := n5_; have HO317 := n6_; have HB := n7_; clear n0_ n1_ n2_ n3_ n4_ n5_ n6_ n7_; (try clear hb); (try clear hb2); (try clear hk); (try clear hi); (try clear ho0); (try clear ho1)) | ((with_reducible refine gate_dst (N := 15) rfl ?_); refine box_event ?hg (N := 15) ?hd (cs := #[.slice none 0 0, .slice none 0 0]) (t := 39) ?hr ?_; (case hd => rfl); (case hg => rfl); (case hr => first | (go_simp; done) | (go_simp; rfl)); intro gb320 hg w32 hbox hb; have n0_ := Aside0.mk (Kd.R_below (by (with_reducible repeat (first | apply Kd.R_alloc | apply Kd.R_drewN | apply Kd.R_drew)); exact HO_7.out) hb); have n1_ := Aside0.mk (Kd.R_below (by (with_reducible repeat (first | apply Kd.R_alloc | apply Kd.R_drewN | apply Kd.R_drew)); exact HO_8.out) hb); have n2_ := Aside0.mk (Kd.R_below (by (with_reducible repeat (first | apply Kd.R_alloc | apply Kd.R_drewN | apply Kd.R_drew)); exact HO_10.out) hb); have n3_ := Aside0.mk (Kd.R_below (by (with_reducible repeat (first | apply Kd.R_alloc | apply Kd.R_drewN | apply Kd.R_drew)); exact HO_11.out) hb); have n4_ := Aside0.mk (Kd.R_below (by (with_reducible repeat (first | apply Kd.R_alloc | apply Kd.R_drewN | apply Kd.R_drew)); exact HO_12.out) hb); have n5_ := Aside0.mk (Kd.R_below (by (with_reducible repeat (first | apply Kd.R_alloc | apply Kd.R_drewN | apply Kd.R_drew)); exact HO314.out) hb); have n6_ := Aside0.mk (Kd.R_below (by (with_reducible repeat (first | apply Kd.R_alloc | apply Kd.R_drewN | apply Kd.R_drew)); exact HO317.out) hb); have n7_ := Aside0.mk (below_step (by repeat (first | (with_reducible first | exact HB.out | apply below_alloc | apply pw_below_drewN | apply below_drew1) | exact HB.out)) hb); have n8_ := Aside0.mk (hbox); have n9_ := Aside0.mk ((by rw [hg]; exact (below_size (by repeat (first | (with_reducible first | exact HB.out | apply below_alloc | apply pw_below_drewN | apply below_drew1) | exact HB.out))) : w.heap.size ≤ gb320)); have n10_ := Aside0.mk ((by rw [hg]; exact (below_size (by repeat (first | (with_reducible first | exact HB.out | apply below_alloc | apply pw_below_drewN | apply below_drew1) | exact HB.out))) : w.heap.size ≤ gb320)); clear HO_7; clear HO_8; clear HO_10; clear HO_11; clear HO_12; clear HO314; clear HO317; clear HB; have HO_7 := n0_; have HO_8 := n1_; have HO_10 := n2_; have HO_11 := n3_; have HO_12 := n4_; have HO314 := n5_; have HO317 := n6_; have HB := n7_; have BK320 := n8_; have GW320 := n9_; have GE320 := n10_; clear n0_ n1_ n2_ n3_ n4_ n5_ n6_ n7_ n8_ n9_ n10_; clear hb hbox hg; obtain ⟨Ao33, co33, eo33⟩ := Kd.R_slice HO314.out; subst eo33; have hcz34_0 : w32.cell? ⟨gb320, 0, none⟩ = some (.slice none 0 0) := (blk_cell BK320.out 0).trans rfl; have hcz34_1 : w32.cell? ⟨gb320, 1, none⟩ = some (.slice none 0 0) := (blk_cell BK320.out 1).trans rfl; have hfz34_0 := blk_frozen BK320.out 0; have hfz34_1 := blk_frozen BK320.out 1; obtain ⟨Ao35, co35, eo35⟩ := Kd.R_slice HO317.out; subst eo35))
              (try simp only [Act.put, List.setIfInBounds_toArray, List.set_cons_zero, List.set_cons_succ])
              go_cut [121] (fun v121 wc => ∃ (kq : Nat) (x121_29 : Bool), v121 = .bool x121_29 ∧ Aside0 (turndownlaw08_RoomsTurned.j2 kq t286 x8_1 (wrap64 (1 + t292)) x10_1 x11_1 x12_2 t318 x121_29 t312 t315 = some r) ∧ Aside0 (kq ≤ k2) ∧ Aside0 (Kd.R (Kd.int .i64) 3 wc w.heap.size (fun k_ => some k_ ≠ (u12 : Value).ownBlock ∧ some k_ ≠ ((.slice Ao33 t312.length co33) : Value).ownBlock ∧ some k_ ≠ ((.slice Ao35 t315.length co35) : Value).ownBlock) (.slice Ao8 t286.length co8) t286) ∧ Aside0 (Kd.R k47 47 wc w.heap.size (fun k_ => some k_ ≠ (u10 : Value).ownBlock ∧ some k_ ≠ (u11 : Value).ownBlock) (.slice Ao23 x8_1.length co23) x8_1) ∧ Aside0 (Kd.R k47 47 wc w.heap.size (fun k_ => some k_ ≠ ((.slice Ao23 x8_1.length co23) : Value).ownBlock ∧ some k_ ≠ (u11 : Value).ownBlock) u10 x10_1) ∧ Aside0 (Kd.R k47 47 wc w.heap.size (fun k_ => some k_ ≠ ((.slice Ao23 x8_1.length co23) : Value).ownBlock ∧ some k_ ≠ (u10 : Value).ownBlock) u11 x11_1) ∧ Aside0 (Kd.R (Kd.int .i64) 3 wc w.heap.size (fun k_ => some k_ ≠ ((.slice Ao8 t286.length co8) : Value).ownBlock ∧ some k_ ≠ ((.slice Ao33 t312.length co33) : Value).ownBlock ∧ some k_ ≠ ((.slice Ao35 t315.length co35) : Value).ownBlock) u12 x12_2) ∧ Aside0 (Kd.R (Kd.int .i64) 3 wc w.heap.size (fun k_ => some k_ ≠ ((.slice Ao8 t286.length co8) : Value).ownBlock ∧ some k_ ≠ (u12 : Value).ownBlock ∧ some k_ ≠ ((.slice Ao35 t315.length co35) : Value).ownBlock) (.slice Ao33 t312.length co33) t312) ∧ Aside0 (Kd.R (Kd.int .i64) 3 wc w.heap.size (fun k_ => some k_ ≠ ((.slice Ao8 t286.length co8) : Value).ownBlock ∧ some k_ ≠ (u12 : Value).ownBlock ∧ some k_ ≠ ((.slice Ao33 t312.length co33) : Value).ownBlock) (.slice Ao35 t315.length co35) t315) ∧ Aside0 (wc.heap[gb320]? = some (.cells #[(.slice Ao33 t312.length co33), (.slice Ao35 t315.length co35)] 39 (0, 0))) ∧ Aside0 (Below w.heap.size w wc))
              case first =>
                have H := HC30.out
                clear HC30
                by_cases c36 : t319 = 0
                · rw [if_pos c36] at H
                  have c36b0 : (t319 == 0) = true := beq_iff_eq.mpr c36
                  have c36b1 : (t319 != 0) = false := bne_eq_false_iff_eq.mpr c36
                  clear c36
                  (first | rw [c36b0] | (simp only [i64_w, i32_w]; rw [c36b0]) | skip)
                  replace H := Option.bind_eq_some_iff.mp H
                  obtain ⟨t321, A370, H⟩ := H
                  replace H : (turndownlaw08_RoomsTurned.j2 k2 t286 x8_1 (wrap64 (1 + t292)) x10_1 x11_1 x12_2 t318 (!t321) t312 t315) = some r := H
                  have A37 := Aside0.mk A370
                  clear A370
                  have H' := Aside0.mk H
                  clear H
                  have hcz38_0 : w32.cell? ⟨gb320, 0, none⟩ = some (.slice none 0 0) := (blk_cell BK320.out 0).trans rfl
                  have hcz38_1 : w32.cell? ⟨gb320, 1, none⟩ = some (.slice none 0 0) := (blk_cell BK320.out 1).trans rfl
                  have hfz38_0 := blk_frozen BK320.out 0
                  have hfz38_1 := blk_frozen BK320.out 1
                  go_wp2_with (first | (go_at_call 27; (with_reducible refine (turndownref08_Fits.calls k2 _ _ x8_1 _ _ t286 _ _ t312 t321 _ ?side1 ?side2 ?side3 ?side4 ?side5 ?side6 A37.out).mono ?_); (case side1 => refine (Kd.R_reads' (e := 47) (base := w.heap.size) (ok := fun k_ => (some k_ ≠ (u10 : Value).ownBlock ∧ some k_ ≠ (u11 : Value).ownBlock)) (n := x8_1.length) (c := co23) ?_).2.2; exact (by (with_reducible repeat (first | apply Kd.R_alloc | apply Kd.R_drewN | apply Kd.R_drew)); exact (Kd.R_mono (Kd.R_far (p := ⟨gb320, 1, none⟩) (Kd.R_far (p := ⟨gb320, 0, none⟩) (Kd.R_types HO_8.out BK320.out (by decide)) (fun _ hk => hk.2) (.slice Ao33 t312.length co33)) (fun _ hk => hk.2) (.slice Ao35 t315.length co35)) (fun _ h_ => h_.1)))); (case side2 => exact (Kd.R_reads' HO_8.out).2.1); (case side3 => refine (Kd.R_reads' (e := 3) (base := w.heap.size) (ok := fun k_ => ((some k_ ≠ (u12 : Value).ownBlock ∧ some k_ ≠ (.slice Ao33 t312.length co33 : Value).ownBlock) ∧ some k_ ≠ (.slice Ao35 t315.length co35 : Value).ownBlock)) (n := t286.length) (c := co8) ?_).2.2; exact (by (with_reducible repeat (first | apply Kd.R_alloc | apply Kd.R_drewN | apply Kd.R_drew)); exact (Kd.R_mono (Kd.R_far (p := ⟨gb320, 1, none⟩) (Kd.R_far (p := ⟨gb320, 0, none⟩) (Kd.R_types HO_7.out BK320.out (by decide)) (fun _ hk => hk.2) (.slice Ao33 t312.length co33)) (fun _ hk => hk.2) (.slice Ao35 t315.length co35)) (fun _ h_ => h_.1)))); (case side4 => exact (Kd.R_reads' HO_7.out).2.1); (case side5 => refine (Kd.R_reads' (e := 3) (base := w.heap.size) (ok := fun k_ => ((some k_ ≠ (.slice Ao35 t315.length co35 : Value).ownBlock ∧ some k_ ≠ (.slice Ao8 t286.length co8 : Value).ownBlock) ∧ some k_ ≠ (u12 : Value).ownBlock)) (n := t312.length) (c := co33) ?_).2.2; exact (by (with_reducible repeat (first | apply Kd.R_alloc | apply Kd.R_drewN | apply Kd.R_drew)); exact (Kd.R_mono (Kd.R_far (p := ⟨gb320, 1, none⟩) (Kd.R_far (p := ⟨gb320, 0, none⟩) (Kd.R_types HO314.out BK320.out (by decide)) (fun _ hk => hk.2) (.slice Ao33 t312.length co33)) (fun _ hk => hk.2) (.slice Ao35 t315.length co35)) (fun _ h_ => h_.1)))); (case side6 => exact (Kd.R_reads' HO314.out).2.1); rintro e w39 ⟨rfl, hb⟩; have n0_ := Aside0.mk (Kd.R_below (by (with_reducible repeat (first | apply Kd.R_alloc | apply Kd.R_drewN | apply Kd.R_drew)); exact (Kd.R_mono (Kd.R_far (p := ⟨gb320, 1, none⟩) (Kd.R_far (p := ⟨gb320, 0, none⟩) (Kd.R_types HO_7.out BK320.out (by decide)) (fun _ hk => hk.2) (.slice Ao33 t312.length co33)) (fun _ hk => hk.2) (.slice Ao35 t315.length co35)) (fun _ h_ => h_.1))) hb); have n1_ := Aside0.mk (Kd.R_below (by (with_reducible repeat (first | apply Kd.R_alloc | apply Kd.R_drewN | apply Kd.R_drew)); exact (Kd.R_mono (Kd.R_far (p := ⟨gb320, 1, none⟩) (Kd.R_far (p := ⟨gb320, 0, none⟩) (Kd.R_types HO_8.out BK320.out (by decide)) (fun _ hk => hk.2) (.slice Ao33 t312.length co33)) (fun _ hk => hk.2) (.slice Ao35 t315.length co35)) (fun _ h_ => h_.1))) hb); have n2_ := Aside0.mk (Kd.R_below (by (with_reducible repeat (first | apply Kd.R_alloc | apply Kd.R_drewN | apply Kd.R_drew)); exact (Kd.R_mono (Kd.R_far (p := ⟨gb320, 1, none⟩) (Kd.R_far (p := ⟨gb320, 0, none⟩) (Kd.R_types HO_10.out BK320.out (by decide)) (fun _ hk => hk.2) (.slice Ao33 t312.length co33)) (fun _ hk => hk.2) (.slice Ao35 t315.length co35)) (fun _ h_ => h_.1))) hb); have n3_ := Aside0.mk (Kd.R_below (by (with_reducible repeat (first | apply Kd.R_alloc | apply Kd.R_drewN | apply Kd.R_drew)); exact (Kd.R_mono (Kd.R_far (p := ⟨gb320, 1, none⟩) (Kd.R_far (p := ⟨gb320, 0, none⟩) (Kd.R_types HO_11.out BK320.out (by decide)) (fun _ hk => hk.2) (.slice Ao33 t312.length co33)) (fun _ hk => hk.2) (.slice Ao35 t315.length co35)) (fun _ h_ => h_.1))) hb); have n4_ := Aside0.mk (Kd.R_below (by (with_reducible repeat (first | apply Kd.R_alloc | apply Kd.R_drewN | apply Kd.R_drew)); exact (Kd.R_mono (Kd.R_far (p := ⟨gb320, 1, none⟩) (Kd.R_far (p := ⟨gb320, 0, none⟩) (Kd.R_types HO_12.out BK320.out (by decide)) (fun _ hk => hk.2) (.slice Ao33 t312.length co33)) (fun _ hk => hk.2) (.slice Ao35 t315.length co35)) (fun _ h_ => h_.1))) hb); have n5_ := Aside0.mk (Kd.R_below (by (with_reducible repeat (first | apply Kd.R_alloc | apply Kd.R_drewN | apply Kd.R_drew)); exact (Kd.R_mono (Kd.R_far (p := ⟨gb320, 1, none⟩) (Kd.R_far (p := ⟨gb320, 0, none⟩) (Kd.R_types HO314.out BK320.out (by decide)) (fun _ hk => hk.2) (.slice Ao33 t312.length co33)) (fun _ hk => hk.2) (.slice Ao35 t315.length co35)) (fun _ h_ => h_.1))) hb); have n6_ := Aside0.mk (Kd.R_below (by (with_reducible repeat (first | apply Kd.R_alloc | apply Kd.R_drewN | apply Kd.R_drew)); exact (Kd.R_mono (Kd.R_far (p := ⟨gb320, 1, none⟩) (Kd.R_far (p := ⟨gb320, 0, none⟩) (Kd.R_types HO317.out BK320.out (by decide)) (fun _ hk => hk.2) (.slice Ao33 t312.length co33)) (fun _ hk => hk.2) (.slice Ao35 t315.length co35)) (fun _ h_ => h_.1))) hb); have n7_ := Aside0.mk (blk_below (g := gb320) (o := .cells #[.slice Ao33 t312.length co33, .slice Ao35 t315.length co35] 39 (0, 0)) (by (with_reducible repeat (first | refine blk_drewN ?_ _ | refine blk_drew ?_ | refine blk_alloc ?_ _)); refine blk_put (cs := #[.slice Ao33 t312.length co33, .slice none 0 0]) ?_ 1 _ rfl; (with_reducible repeat (first | refine blk_drewN ?_ _ | refine blk_drew ?_ | refine blk_alloc ?_ _)); refine blk_put (cs := #[.slice none 0 0, .slice none 0 0]) ?_ 0 _ rfl; (with_reducible repeat (first | refine blk_drewN ?_ _ | refine blk_drew ?_ | refine blk_alloc ?_ _)); exact BK320.out) hb); have n8_ := Aside0.mk (below_step (by repeat (first | (with_reducible first | exact HB.out | apply below_alloc | apply pw_below_drewN | apply below_drew1 | refine below_set ?_ GE320.out) | exact HB.out)) hb); clear HO_7; clear HO_8; clear HO_10; clear HO_11; clear HO_12; clear HO314; clear HO317; clear BK320; clear HB; have HO_7 := n0_; have HO_8 := n1_; have HO_10 := n2_; have HO_11 := n3_; have HO_12 := n4_; have HO314 := n5_; have HO317 := n6_; have BK320 := n7_; have HB := n8_; clear n0_ n1_ n2_ n3_ n4_ n5_ n6_ n7_ n8_; (try clear hb); (try clear hb2); (try clear hk); (try clear hi)))
                  go_meet
                  case rel => exact ⟨_, (!t321), (by first | rfl | (simp; done) | (simp [*]; done)), H', ⟨by have := HK1.out; have := HK2.out; first | omega | exact Nat.le_refl _⟩, ⟨by (with_reducible repeat (first | apply Kd.R_alloc | apply Kd.R_drewN | apply Kd.R_drew)); exact Kd.R_mono HO_7.out (fun _ hk => ⟨hk.1.1, ⟨hk.1.2, hk.2⟩⟩)⟩, ⟨by (with_reducible repeat (first | apply Kd.R_alloc | apply Kd.R_drewN | apply Kd.R_drew)); exact HO_8.out⟩, ⟨by (with_reducible repeat (first | apply Kd.R_alloc | apply Kd.R_drewN | apply Kd.R_drew)); exact HO_10.out⟩, ⟨by (with_reducible repeat (first | apply Kd.R_alloc | apply Kd.R_drewN | apply Kd.R_drew)); exact HO_11.out⟩, ⟨by (with_reducible repeat (first | apply Kd.R_alloc | apply Kd.R_drewN | apply Kd.R_drew)); exact Kd.R_mono HO_12.out (fun _ hk => ⟨hk.1.1, ⟨hk.1.2, hk.2⟩⟩)⟩, ⟨by (with_reducible repeat (first | apply Kd.R_alloc | apply Kd.R_drewN | apply Kd.R_drew)); exact Kd.R_mono HO314.out (fun _ hk => ⟨hk.1.2, ⟨hk.2, hk.1.1⟩⟩)⟩, ⟨by (with_reducible repeat (first | apply Kd.R_alloc | apply Kd.R_drewN | apply Kd.R_drew)); exact Kd.R_mono HO317.out (fun _ hk => ⟨hk.1.2, ⟨hk.2, hk.1.1⟩⟩)⟩, ⟨by (with_reducible repeat (first | refine blk_drewN ?_ _ | refine blk_drew ?_ | refine blk_alloc ?_ _)); exact BK320.out⟩, ⟨by repeat (first | (with_reducible first | exact HB.out | apply below_alloc | apply pw_below_drewN | apply below_drew1 | refine below_set ?_ GE320.out) | exact HB.out)⟩⟩
                · rw [if_neg c36] at H
                  have c36b0 : (t319 == 0) = false := beq_eq_false_iff_ne.mpr c36
                  have c36b1 : (t319 != 0) = true := bne_iff_ne.mpr c36
                  (first | rw [c36b0] | (simp only [i64_w, i32_w]; rw [c36b0]) | skip)
                  have H' := Aside0.mk H
                  clear H
                  go_wp2
                  go_meet
                  case rel => exact ⟨_, (true), (by first | rfl | (simp; done) | (simp [*]; done)), H', ⟨by have := HK1.out; have := HK2.out; first | omega | exact Nat.le_refl _⟩, ⟨by (with_reducible repeat (first | apply Kd.R_alloc | apply Kd.R_drewN | apply Kd.R_drew)); exact Kd.R_mono (Kd.R_far (p := ⟨gb320, 1, none⟩) (Kd.R_far (p := ⟨gb320, 0, none⟩) (Kd.R_types HO_7.out BK320.out (by decide)) (fun _ hk => hk.2) (.slice Ao33 t312.length co33)) (fun _ hk => hk.2) (.slice Ao35 t315.length co35)) (fun _ hk => ⟨hk.1.1.1, ⟨hk.1.1.2, hk.1.2⟩⟩)⟩, ⟨by (with_reducible repeat (first | apply Kd.R_alloc | apply Kd.R_drewN | apply Kd.R_drew)); exact Kd.R_mono (Kd.R_far (p := ⟨gb320, 1, none⟩) (Kd.R_far (p := ⟨gb320, 0, none⟩) (Kd.R_types HO_8.out BK320.out (by decide)) (fun _ hk => hk.2) (.slice Ao33 t312.length co33)) (fun _ hk => hk.2) (.slice Ao35 t315.length co35)) (fun _ hk => ⟨hk.1.1, hk.1.2⟩)⟩, ⟨by (with_reducible repeat (first | apply Kd.R_alloc | apply Kd.R_drewN | apply Kd.R_drew)); exact Kd.R_mono (Kd.R_far (p := ⟨gb320, 1, none⟩) (Kd.R_far (p := ⟨gb320, 0, none⟩) (Kd.R_types HO_10.out BK320.out (by decide)) (fun _ hk => hk.2) (.slice Ao33 t312.length co33)) (fun _ hk => hk.2) (.slice Ao35 t315.length co35)) (fun _ hk => ⟨hk.1.1, hk.1.2⟩)⟩, ⟨by (with_reducible repeat (first | apply Kd.R_alloc | apply Kd.R_drewN | apply Kd.R_drew)); exact Kd.R_mono (Kd.R_far (p := ⟨gb320, 1, none⟩) (Kd.R_far (p := ⟨gb320, 0, none⟩) (Kd.R_types HO_11.out BK320.out (by decide)) (fun _ hk => hk.2) (.slice Ao33 t312.length co33)) (fun _ hk => hk.2) (.slice Ao35 t315.length co35)) (fun _ hk => ⟨hk.1.1, hk.1.2⟩)⟩, ⟨by (with_reducible repeat (first | apply Kd.R_alloc | apply Kd.R_drewN | apply Kd.R_drew)); exact Kd.R_mono (Kd.R_far (p := ⟨gb320, 1, none⟩) (Kd.R_far (p := ⟨gb320, 0, none⟩) (Kd.R_types HO_12.out BK320.out (by decide)) (fun _ hk => hk.2) (.slice Ao33 t312.length co33)) (fun _ hk => hk.2) (.slice Ao35 t315.length co35)) (fun _ hk => ⟨hk.1.1.1, ⟨hk.1.1.2, hk.1.2⟩⟩)⟩, ⟨by (with_reducible repeat (first | apply Kd.R_alloc | apply Kd.R_drewN | apply Kd.R_drew)); exact Kd.R_mono (Kd.R_far (p := ⟨gb320, 1, none⟩) (Kd.R_far (p := ⟨gb320, 0, none⟩) (Kd.R_types HO314.out BK320.out (by decide)) (fun _ hk => hk.2) (.slice Ao33 t312.length co33)) (fun _ hk => hk.2) (.slice Ao35 t315.length co35)) (fun _ hk => ⟨hk.1.1.2, ⟨hk.1.2, hk.1.1.1⟩⟩)⟩, ⟨by (with_reducible repeat (first | apply Kd.R_alloc | apply Kd.R_drewN | apply Kd.R_drew)); exact Kd.R_mono (Kd.R_far (p := ⟨gb320, 1, none⟩) (Kd.R_far (p := ⟨gb320, 0, none⟩) (Kd.R_types HO317.out BK320.out (by decide)) (fun _ hk => hk.2) (.slice Ao33 t312.length co33)) (fun _ hk => hk.2) (.slice Ao35 t315.length co35)) (fun _ hk => ⟨hk.1.1.2, ⟨hk.1.2, hk.1.1.1⟩⟩)⟩, ⟨by (with_reducible repeat (first | refine blk_drewN ?_ _ | refine blk_drew ?_ | refine blk_alloc ?_ _)); refine blk_put (cs := #[.slice Ao33 t312.length co33, .slice none 0 0]) ?_ 1 _ rfl; (with_reducible repeat (first | refine blk_drewN ?_ _ | refine blk_drew ?_ | refine blk_alloc ?_ _)); refine blk_put (cs := #[.slice none 0 0, .slice none 0 0]) ?_ 0 _ rfl; (with_reducible repeat (first | refine blk_drewN ?_ _ | refine blk_drew ?_ | refine blk_alloc ?_ _)); exact BK320.out⟩, ⟨by repeat (first | (with_reducible first | exact HB.out | apply below_alloc | apply pw_below_drewN | apply below_drew1 | refine below_set ?_ GE320.out) | exact HB.out)⟩⟩
              case rest =>
                clear HC30
                try clear c1
                try clear p1
                try clear q1
                try clear hx1
                try clear c2
                try clear p2
                try clear q2
                try clear hx2
                try clear c3
                try clear p3
                try clear q3
                try clear hx3
                try clear p6
                try clear c10
                try clear c10b0
                try clear c11
                try clear c13
                try clear p13
                try clear q13
                try clear hx13
                try clear hf13
                try clear c14
                try clear c15
                try clear c17
                try clear hx17
                try clear hf17
                try clear c24
                try clear c24b0
                try clear c25
                try clear c25b0
                try clear c26
                try clear c26b0
                try clear c27
                try clear p29
                try clear q29
                try clear hx29
                try clear c30
                try clear p30
                try clear q30
                try clear hx30
                try clear c36
                try clear c36b0
                try clear c36b1
                try clear hcz34_0
                try clear hcz34_1
                try clear hcz38_0
                try clear hcz38_1
                try clear hfz34_0
                try clear hfz34_1
                try clear hfz38_0
                try clear hfz38_1
                try clear hx13_0
                try clear hx13_1
                try clear hx13_2
                try clear hx17_2
                try clear hx293_0
                try clear hx293_1
                try clear hx293_2
                try clear hx296_0
                try clear hx296_1
                try clear hx296_2
                try clear hx297_0
                try clear hx297_1
                try clear hx297_2
                try clear hx298_0
                try clear hx298_1
                try clear hx298_2
                try clear hx302_0
                try clear hx302_1
                try clear hx302_2
                try clear hx303_0
                try clear hx303_1
                try clear hx303_2
                try clear hx304_0
                try clear hx304_1
                try clear hx304_2
                try clear hx308_0
                try clear p1
                try clear p13
                try clear p2
                try clear p293
                try clear p296
                try clear p297
                try clear p298
                try clear p3
                try clear p302
                try clear p303
                try clear p304
                try clear p308
                try clear p6
                try clear q1
                try clear q13
                try clear q2
                try clear q293
                try clear q296
                try clear q297
                try clear q298
                try clear q3
                try clear q302
                try clear q303
                try clear q304
                try clear q308
                obtain ⟨kq, x121_29, rfl, HA, HJ29, HO_7, HO_8, HO_10, HO_11, HO_12, HO_321000, HO_321001, BK320, HB⟩ := hcut
                cases kq with
                | zero => exact absurd HA.out (by simp [turndownlaw08_RoomsTurned.j2])
                | succ kj29 =>
                  have H := HA.out
                  clear HA
                  simp only [turndownlaw08_RoomsTurned.j2] at H
                  by_cases c40 : x121_29 = true
                  · subst c40
                    have H1 : (some false) = some r := by rw [if_pos rfl] at H; exact H
                    clear H
                    have H := H1
                    clear H1
                    obtain rfl := Option.some.inj H
                    go_wp2
                    go_ret
                    exact ⟨by first | rfl | (simp [errW_none, errW_some] <;> rfl) | (simp [*, errW_none, errW_some] <;> rfl), by repeat (first | (with_reducible first | exact HB.out | apply below_alloc | apply pw_below_drewN | apply below_drew1 | refine below_set ?_ GE320.out) | exact HB.out)⟩
                  · replace c40 := Bool.eq_false_iff.mpr c40
                    subst c40
                    have H1 : (turndownlaw08_RoomsTurned.l2 kj29 t286 x8_1 (wrap64 (1 + t292)) x10_1 x11_1 x12_2 t318 ([] : List (S47)) 0 t312 t315) = some r := by rw [if_neg (show ¬ (false = true) by decide)] at H; exact H
                    clear H
                    have H := H1
                    clear H1
                    have H' := Aside0.mk H
                    clear H
                    go_wp2
                    go_loopg [18, 19] kj29 (fun kq v18 v19 w' => ∃ (x18_4 : List (S47)) (x19_4 : Int), v19 = .int .i64 x19_4 ∧ Aside0 (turndownlaw08_RoomsTurned.l2 kq t286 x8_1 (wrap64 (1 + t292)) x10_1 x11_1 x12_2 t318 x18_4 x19_4 t312 t315 = some r) ∧ Aside0 (kq ≤ kj29) ∧ Aside0 (Kd.R (Kd.int .i64) 3 w' w.heap.size (fun k_ => some k_ ≠ (u12 : Value).ownBlock ∧ some k_ ≠ ((.slice Ao33 t312.length co33) : Value).ownBlock ∧ some k_ ≠ ((.slice Ao35 t315.length co35) : Value).ownBlock) (.slice Ao8 t286.length co8) t286) ∧ Aside0 (Kd.R k47 47 w' w.heap.size (fun k_ => some k_ ≠ (u10 : Value).ownBlock ∧ some k_ ≠ (u11 : Value).ownBlock ∧ some k_ ≠ (v18 : Value).ownBlock) (.slice Ao23 x8_1.length co23) x8_1) ∧ Aside0 (Kd.R k47 47 w' w.heap.size (fun k_ => some k_ ≠ ((.slice Ao23 x8_1.length co23) : Value).ownBlock ∧ some k_ ≠ (u11 : Value).ownBlock ∧ some k_ ≠ (v18 : Value).ownBlock) u10 x10_1) ∧ Aside0 (Kd.R k47 47 w' w.heap.size (fun k_ => some k_ ≠ ((.slice Ao23 x8_1.length co23) : Value).ownBlock ∧ some k_ ≠ (u10 : Value).ownBlock ∧ some k_ ≠ (v18 : Value).ownBlock) u11 x11_1) ∧ Aside0 (Kd.R (Kd.int .i64) 3 w' w.heap.size (fun k_ => some k_ ≠ ((.slice Ao8 t286.length co8) : Value).ownBlock ∧ some k_ ≠ ((.slice Ao33 t312.length co33) : Value).ownBlock ∧ some k_ ≠ ((.slice Ao35 t315.length co35) : Value).ownBlock) u12 x12_2) ∧ Aside0 (Kd.R k47 47 w' w.heap.size (fun k_ => some k_ ≠ ((.slice Ao23 x8_1.length co23) : Value).ownBlock ∧ some k_ ≠ (u10 : Value).ownBlock ∧ some k_ ≠ (u11 : Value).ownBlock) v18 x18_4) ∧ Aside0 (Kd.R (Kd.int .i64) 3 w' w.heap.size (fun k_ => some k_ ≠ ((.slice Ao8 t286.length co8) : Value).ownBlock ∧ some k_ ≠ (u12 : Value).ownBlock ∧ some k_ ≠ ((.slice Ao35 t315.length co35) : Value).ownBlock) (.slice Ao33 t312.length co33) t312) ∧ Aside0 (Kd.R (Kd.int .i64) 3 w' w.heap.size (fun k_ => some k_ ≠ ((.slice Ao8 t286.length co8) : Value).ownBlock ∧ some k_ ≠ (u12 : Value).ownBlock ∧ some k_ ≠ ((.slice Ao33 t312.length co33) : Value).ownBlock) (.slice Ao35 t315.length co35) t315) ∧ Aside0 (w'.heap[gb320]? = some (.cells #[(.slice Ao33 t312.length co33), (.slice Ao35 t315.length co35)] 39 (0, 0))) ∧ Aside0 (Below w.heap.size w w'))
                    case atStart => exact ⟨(([] : List (S47))), (0), (by first | rfl | (simp; done) | (simp [*]; done)), H', ⟨Nat.le_refl _⟩, ⟨by (with_reducible repeat (first | apply Kd.R_alloc | apply Kd.R_drewN | apply Kd.R_drew)); exact HO_7.out⟩, ⟨by (with_reducible repeat (first | apply Kd.R_alloc | apply Kd.R_drewN | apply Kd.R_drew)); exact Kd.R_mono HO_8.out (fun _ hk => ⟨hk.1, ⟨hk.2, (by simp [Value.ownBlock])⟩⟩)⟩, ⟨by (with_reducible repeat (first | apply Kd.R_alloc | apply Kd.R_drewN | apply Kd.R_drew)); exact Kd.R_mono HO_10.out (fun _ hk => ⟨hk.1, ⟨hk.2, (by simp [Value.ownBlock])⟩⟩)⟩, ⟨by (with_reducible repeat (first | apply Kd.R_alloc | apply Kd.R_drewN | apply Kd.R_drew)); exact Kd.R_mono HO_11.out (fun _ hk => ⟨hk.1, ⟨hk.2, (by simp [Value.ownBlock])⟩⟩)⟩, ⟨by (with_reducible repeat (first | apply Kd.R_alloc | apply Kd.R_drewN | apply Kd.R_drew)); exact HO_12.out⟩, ⟨by first | exact Kd.R_nil _ _ _ _ _ | exact Kd.N_nil _ _ _ _ _ | exact Kd.V_nil _ _ _ _ _ | exact Kd.Q_nil _ _ _ _ _ | exact Kd.S_nil _ _ _ _ _⟩, ⟨by (with_reducible repeat (first | apply Kd.R_alloc | apply Kd.R_drewN | apply Kd.R_drew)); exact HO_321000.out⟩, ⟨by (with_reducible repeat (first | apply Kd.R_alloc | apply Kd.R_drewN | apply Kd.R_drew)); exact HO_321001.out⟩, ⟨by (with_reducible repeat (first | refine blk_drewN ?_ _ | refine blk_drew ?_ | refine blk_alloc ?_ _)); exact BK320.out⟩, ⟨by repeat (first | (with_reducible first | exact HB.out | apply below_alloc | apply pw_below_drewN | apply below_drew1 | refine below_set ?_ GE320.out) | exact HB.out)⟩⟩
                    case round =>
                      clear H'
                      try clear c1
                      try clear p1
                      try clear q1
                      try clear hx1
                      try clear c2
                      try clear p2
                      try clear q2
                      try clear hx2
                      try clear c3
                      try clear p3
                      try clear q3
                      try clear hx3
                      try clear c4
                      try clear p6
                      try clear c10
                      try clear c10b0
                      try clear c11
                      try clear c13
                      try clear p13
                      try clear q13
                      try clear hx13
                      try clear hf13
                      try clear c14
                      try clear c15
                      try clear c17
                      try clear hx17
                      try clear hf17
                      try clear c24
                      try clear c24b0
                      try clear c25
                      try clear c25b0
                      try clear c26
                      try clear c26b0
                      try clear c27
                      try clear p29
                      try clear q29
                      try clear hx29
                      try clear c30
                      try clear p30
                      try clear q30
                      try clear hx30
                      try clear c36
                      try clear c36b0
                      try clear c36b1
                      try clear c40
                      try clear hcz34_0
                      try clear hcz34_1
                      try clear hcz38_0
                      try clear hcz38_1
                      try clear hfz34_0
                      try clear hfz34_1
                      try clear hfz38_0
                      try clear hfz38_1
                      try clear hx13_0
                      try clear hx13_1
                      try clear hx13_2
                      try clear hx17_2
                      try clear hx293_0
                      try clear hx293_1
                      try clear hx293_2
                      try clear hx296_0
                      try clear hx296_1
                      try clear hx296_2
                      try clear hx297_0
                      try clear hx297_1
                      try clear hx297_2
                      try clear hx298_0
                      try clear hx298_1
                      try clear hx298_2
                      try clear hx302_0
                      try clear hx302_1
                      try clear hx302_2
                      try clear hx303_0
                      try clear hx303_1
                      try clear hx303_2
                      try clear hx304_0
                      try clear hx304_1
                      try clear hx304_2
                      try clear hx308_0
                      try clear p1
                      try clear p13
                      try clear p2
                      try clear p29
                      try clear p293
                      try clear p296
                      try clear p297
                      try clear p298
                      try clear p3
                      try clear p30
                      try clear p302
                      try clear p303
                      try clear p304
                      try clear p308
                      try clear p6
                      try clear q1
                      try clear q13
                      try clear q2
                      try clear q29
                      try clear q293
                      try clear q296
                      try clear q297
                      try clear q298
                      try clear q3
                      try clear q30
                      try clear q302
                      try clear q303
                      try clear q304
                      try clear q308
                      obtain ⟨x18_4, x19_4, rfl, HA, HK4, HO_7, HO_8, HO_10, HO_11, HO_12, HO_18, HO_321000, HO_321001, BK320, HB⟩ := hrel
                      cases gk with
                      | zero => exact absurd HA.out (by simp [turndownlaw08_RoomsTurned.l2])
                      | succ k4 =>
                        have H := HA.out
                        clear HA
                        simp only [turndownlaw08_RoomsTurned.l2] at H
                        by_cases c41 : x19_4 < (t312.length : Int)
                        · rw [if_pos c41] at H
                          have c41b0 : decide (x19_4 < (t312.length : Int)) = true := decide_eq_true c41
                          clear c41
                          by_cases c42 : 0 ≤ x19_4
                          · rw [if_pos c42] at H
                            have c42b0 : decide (0 ≤ x19_4) = true := decide_eq_true c42
                            clear c42
                            by_cases c43 : 0 ≤ (rd t312 x19_4)
                            · rw [if_pos c43] at H
                              have c43b0 : decide (0 ≤ (rd t312 x19_4)) = true := decide_eq_true c43
                              clear c43
                              by_cases c44 : (rd t312 x19_4) < (x8_1.length : Int)
                              · rw [if_pos c44] at H
                                have c44b0 : decide ((rd t312 x19_4) < (x8_1.length : Int)) = true := decide_eq_true c44
                                clear c44
                                by_cases c45 : x18_4.length < 5864062014805
                                · rw [if_pos c45] at H
                                  have LMc45 := Aside0.mk c45
                                  clear c45
                                  obtain ⟨y324, hy324⟩ : ∃ y_ : List (S47), y_ = (x18_4 ++ [(⟨(rd_T47 x8_1 (rd t312 x19_4)).f0, (rd_T47 x8_1 (rd t312 x19_4)).f1, (rd_T47 x8_1 (rd t312 x19_4)).f2⟩ : S47)]) := ⟨_, rfl⟩
                                  replace H : (turndownlaw08_RoomsTurned.l2 k4 t286 x8_1 (wrap64 (1 + t292)) x10_1 x11_1 x12_2 t318 y324 (wrap64 (x19_4 + 1)) t312 t315) = some r := by first | (rw [hy324]; with_reducible exact H) | (have H2_ := (Option.bind_some _ _).symm.trans H; rw [hy324]; with_reducible exact H2_) | (have H2_ := (Option.bind_some _ _).symm.trans H; with_reducible exact H2_) | with_reducible exact H | (rw [hy324]; exact H) | exact H
                                  have Ny324 := Aside0.mk hy324
                                  clear hy324
                                  have H' := Aside0.mk H
                                  clear H
                                  have hcz46_0 : wr.cell? ⟨gb320, 0, none⟩ = some (.slice Ao33 t312.length co33) := (blk_cell BK320.out 0).trans rfl
                                  have hcz46_1 : wr.cell? ⟨gb320, 1, none⟩ = some (.slice Ao35 t315.length co35) := (blk_cell BK320.out 1).trans rfl
                                  have hfz46_0 := blk_frozen BK320.out 0
                                  have hfz46_1 := blk_frozen BK320.out 1
                                  have p322 : 0 ≤ (x19_4 : Int) := of_decide_eq_true (by first | (with_reducible assumption) | assumption)
                                  have q322 : x19_4 < (t312.length : Int) := of_decide_eq_true (by first | (with_reducible assumption) | assumption)
                                  obtain ⟨ad322, e322, hx322_0⟩ := Kd.at_int (Kd.R_reads' HO_321000.out).2.2 x19_4 p322 q322
                                  cases e322
                                  replace p322 := eq_true p322
                                  replace q322 := eq_true q322
                                  have p323 : 0 ≤ ((rd t312 x19_4) : Int) := of_decide_eq_true (by first | (with_reducible assumption) | assumption)
                                  have q323 : (rd t312 x19_4) < (x8_1.length : Int) := of_decide_eq_true (by first | (with_reducible assumption) | assumption)
                                  obtain ⟨ad323, e323, hx323_0, hx323_1, hx323_2⟩ := at_T47 (Kd.R_reads' HO_8.out).2.2 (rd t312 x19_4) p323 q323
                                  cases e323
                                  replace p323 := eq_true p323
                                  replace q323 := eq_true q323
                                  go_wp2_with (first | ((with_reducible refine gate_builtin (b := .append) (xs := #[.tmp 129, .tmp 138]) rfl ?_); at_builtin; refine Kd.R_append k47 (w0 := w) w.heap.size rfl (.tmp 129) (.tmp 138) 22 47 (.agg #[(.int .i64 0), (.int .i64 0), (.int .i64 0)]) 24 rfl Try.underlying22 info47 rfl (by decide) (by omega) u18 x18_4 (⟨(rd_T47 x8_1 (rd t312 x19_4)).f0, (rd_T47 x8_1 (rd t312 x19_4)).f1, (rd_T47 x8_1 (rd t312 x19_4)).f2⟩ : S47) [.int .i64 ((rd_T47 x8_1 (rd t312 x19_4)).f0), .int .i64 ((rd_T47 x8_1 (rd t312 x19_4)).f1), .int .i64 ((rd_T47 x8_1 (rd t312 x19_4)).f2)] (fun k_ => some k_ ≠ (.slice (some ad323) x8_1.length co23 : Value).ownBlock ∧ some k_ ≠ (u10 : Value).ownBlock ∧ some k_ ≠ (u11 : Value).ownBlock) (fun _ => False) rfl rfl ?aP (fun _ hk => hk.elim) ?aF ?aO ?aB ?aS ?aL ?_; (case aP => exact k47_mkM _ _ _ (⟨(rd_T47 x8_1 (rd t312 x19_4)).f0, (rd_T47 x8_1 (rd t312 x19_4)).f1, (rd_T47 x8_1 (rd t312 x19_4)).f2⟩ : S47)); (case aB => exact (by repeat (first | (with_reducible first | exact HB.out | apply below_alloc | apply pw_below_drewN | apply below_drew1 | refine below_set ?_ GE320.out) | exact HB.out))); (case aF => exact (fun k_ hk => ⟨Kd.fresh' (Kd.R_lt (by (with_reducible repeat (first | apply Kd.R_alloc | apply Kd.R_drewN | apply Kd.R_drew)); exact HO_8.out)) k_ hk, Kd.fresh' (Kd.R_lt (by (with_reducible repeat (first | apply Kd.R_alloc | apply Kd.R_drewN | apply Kd.R_drew)); exact HO_10.out)) k_ hk, Kd.fresh' (Kd.R_lt (by (with_reducible repeat (first | apply Kd.R_alloc | apply Kd.R_drewN | apply Kd.R_drew)); exact HO_11.out)) k_ hk⟩)); (case aO => exact (by (with_reducible repeat (first | apply Kd.R_alloc | apply Kd.R_drewN | apply Kd.R_drew)); exact HO_18.out)); (case aS => exact (below_size (by repeat (first | (with_reducible first | exact HB.out | apply below_alloc | apply pw_below_drewN | apply below_drew1 | refine below_set ?_ GE320.out) | exact HB.out)))); (case aL => have := LMc45.out; omega); intro v325 w47 ho hb hg hat; rw [← Ny324.out] at ho; have n0_ := Aside0.mk (Kd.R_over' (by (with_reducible repeat (first | apply Kd.R_alloc | apply Kd.R_drewN | apply Kd.R_drew)); exact HO_7.out) (Kd.R_typed (by (with_reducible repeat (first | apply Kd.R_alloc | apply Kd.R_drewN | apply Kd.R_drew)); exact HO_18.out)) (by decide) hg); have n1_ := Aside0.mk (Kd.R_after (ok := (fun k_ => some k_ ≠ (u10 : Value).ownBlock ∧ some k_ ≠ (u11 : Value).ownBlock)) (by (with_reducible repeat (first | apply Kd.R_alloc | apply Kd.R_drewN | apply Kd.R_drew)); exact Kd.R_mono HO_8.out (fun _ hk => ⟨⟨hk.1, hk.2.1⟩, hk.2.2⟩)) hg hat); have n2_ := Aside0.mk (Kd.R_after (ok := (fun k_ => some k_ ≠ (.slice (some ad323) x8_1.length co23 : Value).ownBlock ∧ some k_ ≠ (u11 : Value).ownBlock)) (by (with_reducible repeat (first | apply Kd.R_alloc | apply Kd.R_drewN | apply Kd.R_drew)); exact Kd.R_mono HO_10.out (fun _ hk => ⟨⟨hk.1, hk.2.1⟩, hk.2.2⟩)) hg hat); have n3_ := Aside0.mk (Kd.R_after (ok := (fun k_ => some k_ ≠ (.slice (some ad323) x8_1.length co23 : Value).ownBlock ∧ some k_ ≠ (u10 : Value).ownBlock)) (by (with_reducible repeat (first | apply Kd.R_alloc | apply Kd.R_drewN | apply Kd.R_drew)); exact Kd.R_mono HO_11.out (fun _ hk => ⟨⟨hk.1, hk.2.1⟩, hk.2.2⟩)) hg hat); have n4_ := Aside0.mk (Kd.R_over' (by (with_reducible repeat (first | apply Kd.R_alloc | apply Kd.R_drewN | apply Kd.R_drew)); exact HO_12.out) (Kd.R_typed (by (with_reducible repeat (first | apply Kd.R_alloc | apply Kd.R_drewN | apply Kd.R_drew)); exact HO_18.out)) (by decide) hg); have n5_ := Aside0.mk (Kd.R_over' (by (with_reducible repeat (first | apply Kd.R_alloc | apply Kd.R_drewN | apply Kd.R_drew)); exact HO_321000.out) (Kd.R_typed (by (with_reducible repeat (first | apply Kd.R_alloc | apply Kd.R_drewN | apply Kd.R_drew)); exact HO_18.out)) (by decide) hg); have n6_ := Aside0.mk (Kd.R_over' (by (with_reducible repeat (first | apply Kd.R_alloc | apply Kd.R_drewN | apply Kd.R_drew)); exact HO_321001.out) (Kd.R_typed (by (with_reducible repeat (first | apply Kd.R_alloc | apply Kd.R_drewN | apply Kd.R_drew)); exact HO_18.out)) (by decide) hg); have n7_ := Aside0.mk (blk_grown (g := gb320) (o := .cells #[.slice (some ad322) t312.length co33, .slice Ao35 t315.length co35] 39 (0, 0)) (by (with_reducible repeat (first | refine blk_drewN ?_ _ | refine blk_drew ?_ | refine blk_alloc ?_ _)); exact BK320.out) hg (Kd.R_ne HO_18.out BK320.out (by decide))); have n8_ := Aside0.mk (hb); have n9_ := Aside0.mk (ho); clear HO_7; clear HO_8; clear HO_10; clear HO_11; clear HO_12; clear HO_321000; clear HO_321001; clear BK320; clear HB; clear HO_18; have HO_7 := n0_; have HO_8 := n1_; have HO_10 := n2_; have HO_11 := n3_; have HO_12 := n4_; have HO_321000 := n5_; have HO_321001 := n6_; have BK320 := n7_; have HB := n8_; have HO326 := n9_; clear n0_ n1_ n2_ n3_ n4_ n5_ n6_ n7_ n8_ n9_; clear ho hb hg hat))
                                  go_roundg k4
                                  case measure => have := HK1.out; have := HK2.out; have := HJ29.out; have := HK4.out; omega
                                  case rel => exact ⟨(y324), (wrap64 (x19_4 + 1)), (by first | rfl | (simp; done) | (simp [*]; done)), H', ⟨by have := HK1.out; have := HK2.out; have := HJ29.out; have := HK4.out; omega⟩, ⟨by (with_reducible repeat (first | apply Kd.R_alloc | apply Kd.R_drewN | apply Kd.R_drew)); exact HO_7.out⟩, ⟨by (with_reducible repeat (first | apply Kd.R_alloc | apply Kd.R_drewN | apply Kd.R_drew)); exact Kd.R_mono HO_8.out (fun _ hk => ⟨hk.1.1, ⟨hk.1.2, hk.2⟩⟩)⟩, ⟨by (with_reducible repeat (first | apply Kd.R_alloc | apply Kd.R_drewN | apply Kd.R_drew)); exact Kd.R_mono HO_10.out (fun _ hk => ⟨hk.1.1, ⟨hk.1.2, hk.2⟩⟩)⟩, ⟨by (with_reducible repeat (first | apply Kd.R_alloc | apply Kd.R_drewN | apply Kd.R_drew)); exact Kd.R_mono HO_11.out (fun _ hk => ⟨hk.1.1, ⟨hk.1.2, hk.2⟩⟩)⟩, ⟨by (with_reducible repeat (first | apply Kd.R_alloc | apply Kd.R_drewN | apply Kd.R_drew)); exact HO_12.out⟩, ⟨by (with_reducible repeat (first | apply Kd.R_alloc | apply Kd.R_drewN | apply Kd.R_drew)); exact HO326.out⟩, ⟨by (with_reducible repeat (first | apply Kd.R_alloc | apply Kd.R_drewN | apply Kd.R_drew)); exact HO_321000.out⟩, ⟨by (with_reducible repeat (first | apply Kd.R_alloc | apply Kd.R_drewN | apply Kd.R_drew)); exact HO_321001.out⟩, ⟨by (with_reducible repeat (first | refine blk_drewN ?_ _ | refine blk_drew ?_ | refine blk_alloc ?_ _)); exact BK320.out⟩, ⟨by repeat (first | (with_reducible first | exact HB.out | apply below_alloc | apply pw_below_drewN | apply below_drew1 | refine below_set ?_ GE320.out) | exact HB.out)⟩⟩
                                · rw [if_neg c45] at H
                                  exact absurd H (by simp)
                              · rw [if_neg c44] at H
                                exact absurd H (by simp)
                            · rw [if_neg c43] at H
                              exact absurd H (by simp)
                          · rw [if_neg c42] at H
                            exact absurd H (by simp)
                        · rw [if_neg c41] at H
                          have c41b0 : decide (x19_4 < (t312.length : Int)) = false := decide_eq_false c41
                          clear c41
                          replace H := Option.bind_eq_some_iff.mp H
                          obtain ⟨t327, A480, H⟩ := H
                          replace H : (if t327 = t318 then ((turndownlaw08_revenue.f k4 x18_4 t286).bind fun t328 => (if t328 = t318 then ((turndownlaw08_revenue.f k4 x11_1 t286).bind fun t329 => (if t329 = (wrap64 ((wrap64 (1 + t292)) * t318)) then ((turndownlaw08_awake.f).bind fun t330 => (some t330)) else (some false))) else (some false))) else (some false)) = some r := H
                          have A48 := Aside0.mk A480
                          clear A480
                          by_cases c49 : t327 = t318
                          · rw [if_pos c49] at H
                            have c49b0 : (t327 == t318) = true := beq_iff_eq.mpr c49
                            have c49b1 : (t327 != t318) = false := bne_eq_false_iff_eq.mpr c49
                            clear c49
                            replace H := Option.bind_eq_some_iff.mp H
                            obtain ⟨t328, A500, H⟩ := H
                            replace H : (if t328 = t318 then ((turndownlaw08_revenue.f k4 x11_1 t286).bind fun t329 => (if t329 = (wrap64 ((wrap64 (1 + t292)) * t318)) then ((turndownlaw08_awake.f).bind fun t330 => (some t330)) else (some false))) else (some false)) = some r := H
                            have A50 := Aside0.mk A500
                            clear A500
                            by_cases c51 : t328 = t318
                            · rw [if_pos c51] at H
                              have c51b0 : (t328 == t318) = true := beq_iff_eq.mpr c51
                              have c51b1 : (t328 != t318) = false := bne_eq_false_iff_eq.mpr c51
                              clear c51
                              replace H := Option.bind_eq_some_iff.mp H
                              obtain ⟨t329, A520, H⟩ := H
                              replace H : (if t329 = (wrap64 ((wrap64 (1 + t292)) * t318)) then ((turndownlaw08_awake.f).bind fun t330 => (some t330)) else (some false)) = some r := H
                              have A52 := Aside0.mk A520
                              clear A520
                              by_cases c53 : t329 = (wrap64 ((wrap64 (1 + t292)) * t318))
                              · rw [if_pos c53] at H
                                have c53b0 : (t329 == (wrap64 ((wrap64 (1 + t292)) * t318))) = true := beq_iff_eq.mpr c53
                                have c53b1 : (t329 != (wrap64 ((wrap64 (1 + t292)) * t318))) = false := bne_eq_false_iff_eq.mpr c53
                                clear c53
                                replace H := Option.bind_eq_some_iff.mp H
                                obtain ⟨t330, A540, H⟩ := H
                                replace H : (some t330) = some r := H
                                have A54 := Aside0.mk A540
                                clear A540
                                obtain rfl := Option.some.inj H
                                have hcz55_0 : wr.cell? ⟨gb320, 0, none⟩ = some (.slice Ao33 t312.length co33) := (blk_cell BK320.out 0).trans rfl
                                have hcz55_1 : wr.cell? ⟨gb320, 1, none⟩ = some (.slice Ao35 t315.length co35) := (blk_cell BK320.out 1).trans rfl
                                have hfz55_0 := blk_frozen BK320.out 0
                                have hfz55_1 := blk_frozen BK320.out 1
                                obtain ⟨Ao56, co56, eo56⟩ := Kd.R_slice HO_10.out
                                subst eo56
                                obtain ⟨Ao57, co57, eo57⟩ := Kd.R_slice HO_12.out
                                subst eo57
                                go_wp2_with (first | ((with_reducible refine gate_callee (f := 25) rfl ?_); refine goesL_ (some 142) rfl rfl Try.func25 (by kernel_rfl) rfl #[.slice Ao56 x10_1.length co56, .slice Ao57 x12_2.length co57] rfl (by (try simp only [List.map_toArray, List.map_cons, List.map_nil]); first | done | rfl | (simp only [List.length_drop, List.length_take]; rfl)) ?_; (with_reducible refine (turndownlaw08_revenue.calls k4 _ _ x10_1 _ _ x12_2 t327 _ ?side1 ?side2 ?side3 ?side4 A48.out).mono ?_); (case side1 => repeat (first | exact (Kd.R_reads' HO_10.out).2.2 | (with_reducible refine Kd.C_alloc ?_ _) | (with_reducible refine Kd.C_drewN ?_ _) | (with_reducible refine Kd.C_drew ?_))); (case side2 => exact (Kd.R_reads' HO_10.out).2.1); (case side3 => repeat (first | exact (Kd.R_reads' HO_12.out).2.2 | (with_reducible refine Kd.C_alloc ?_ _) | (with_reducible refine Kd.C_drewN ?_ _) | (with_reducible refine Kd.C_drew ?_))); (case side4 => exact (Kd.R_reads' HO_12.out).2.1); rintro e w58 ⟨rfl, hb⟩; refine ⟨_, rfl, ?_⟩; have n0_ := Aside0.mk (Kd.R_below (by (with_reducible repeat (first | apply Kd.R_alloc | apply Kd.R_drewN | apply Kd.R_drew)); exact HO_7.out) hb); have n1_ := Aside0.mk (Kd.R_below (by (with_reducible repeat (first | apply Kd.R_alloc | apply Kd.R_drewN | apply Kd.R_drew)); exact HO_8.out) hb); have n2_ := Aside0.mk (Kd.R_below (by (with_reducible repeat (first | apply Kd.R_alloc | apply Kd.R_drewN | apply Kd.R_drew)); exact HO_10.out) hb); have n3_ := Aside0.mk (Kd.R_below (by (with_reducible repeat (first | apply Kd.R_alloc | apply Kd.R_drewN | apply Kd.R_drew)); exact HO_11.out) hb); have n4_ := Aside0.mk (Kd.R_below (by (with_reducible repeat (first | apply Kd.R_alloc | apply Kd.R_drewN | apply Kd.R_drew)); exact HO_12.out) hb); have n5_ := Aside0.mk (Kd.R_below (by (with_reducible repeat (first | apply Kd.R_alloc | apply Kd.R_drewN | apply Kd.R_drew)); exact HO_18.out) hb); have n6_ := Aside0.mk (Kd.R_below (by (with_reducible repeat (first | apply Kd.R_alloc | apply Kd.R_drewN | apply Kd.R_drew)); exact HO_321000.out) hb); have n7_ := Aside0.mk (Kd.R_below (by (with_reducible repeat (first | apply Kd.R_alloc | apply Kd.R_drewN | apply Kd.R_drew)); exact HO_321001.out) hb); have n8_ := Aside0.mk (blk_below (g := gb320) (o := .cells #[.slice Ao33 t312.length co33, .slice Ao35 t315.length co35] 39 (0, 0)) (by (with_reducible repeat (first | refine blk_drewN ?_ _ | refine blk_drew ?_ | refine blk_alloc ?_ _)); exact BK320.out) hb); have n9_ := Aside0.mk (below_step (by repeat (first | (with_reducible first | exact HB.out | apply below_alloc | apply pw_below_drewN | apply below_drew1 | refine below_set ?_ GE320.out) | exact HB.out)) hb); clear HO_7; clear HO_8; clear HO_10; clear HO_11; clear HO_12; clear HO_18; clear HO_321000; clear HO_321001; clear BK320; clear HB; have HO_7 := n0_; have HO_8 := n1_; have HO_10 := n2_; have HO_11 := n3_; have HO_12 := n4_; have HO_18 := n5_; have HO_321000 := n6_; have HO_321001 := n7_; have BK320 := n8_; have HB := n9_; clear n0_ n1_ n2_ n3_ n4_ n5_ n6_ n7_ n8_ n9_; (try clear hb); (try clear hb2); (try clear hk); (try clear hi); obtain ⟨Ao59, co59, eo59⟩ := Kd.R_slice HO_18.out; subst eo59) | (go_at_call 25; (with_reducible refine (turndownlaw08_revenue.calls k4 _ _ x18_4 _ _ t286 t328 _ ?side1 ?side2 ?side3 ?side4 A50.out).mono ?_); (case side1 => repeat (first | exact (Kd.R_reads' HO_18.out).2.2 | (with_reducible refine Kd.C_alloc ?_ _) | (with_reducible refine Kd.C_drewN ?_ _) | (with_reducible refine Kd.C_drew ?_))); (case side2 => exact (Kd.R_reads' HO_18.out).2.1); (case side3 => repeat (first | exact (Kd.R_reads' HO_7.out).2.2 | (with_reducible refine Kd.C_alloc ?_ _) | (with_reducible refine Kd.C_drewN ?_ _) | (with_reducible refine Kd.C_drew ?_))); (case side4 => exact (Kd.R_reads' HO_7.out).2.1); rintro e w60 ⟨rfl, hb⟩; have n0_ := Aside0.mk (Kd.R_below (by (with_reducible repeat (first | apply Kd.R_alloc | apply Kd.R_drewN | apply Kd.R_drew)); exact HO_7.out) hb); have n1_ := Aside0.mk (Kd.R_below (by (with_reducible repeat (first | apply Kd.R_alloc | apply Kd.R_drewN | apply Kd.R_drew)); exact HO_8.out) hb); have n2_ := Aside0.mk (Kd.R_below (by (with_reducible repeat (first | apply Kd.R_alloc | apply Kd.R_drewN | apply Kd.R_drew)); exact HO_10.out) hb); have n3_ := Aside0.mk (Kd.R_below (by (with_reducible repeat (first | apply Kd.R_alloc | apply Kd.R_drewN | apply Kd.R_drew)); exact HO_11.out) hb); have n4_ := Aside0.mk (Kd.R_below (by (with_reducible repeat (first | apply Kd.R_alloc | apply Kd.R_drewN | apply Kd.R_drew)); exact HO_12.out) hb); have n5_ := Aside0.mk (Kd.R_below (by (with_reducible repeat (first | apply Kd.R_alloc | apply Kd.R_drewN | apply Kd.R_drew)); exact HO_18.out) hb); have n6_ := Aside0.mk (Kd.R_below (by (with_reducible repeat (first | apply Kd.R_alloc | apply Kd.R_drewN | apply Kd.R_drew)); exact HO_321000.out) hb); have n7_ := Aside0.mk (Kd.R_below (by (with_reducible repeat (first | apply Kd.R_alloc | apply Kd.R_drewN | apply Kd.R_drew)); exact HO_321001.out) hb); have n8_ := Aside0.mk (blk_below (g := gb320) (o := .cells #[.slice Ao33 t312.length co33, .slice Ao35 t315.length co35] 39 (0, 0)) (by (with_reducible repeat (first | refine blk_drewN ?_ _ | refine blk_drew ?_ | refine blk_alloc ?_ _)); exact BK320.out) hb); have n9_ := Aside0.mk (below_step (by repeat (first | (with_reducible first | exact HB.out | apply below_alloc | apply pw_below_drewN | apply below_drew1 | refine below_set ?_ GE320.out) | exact HB.out)) hb); clear HO_7; clear HO_8; clear HO_10; clear HO_11; clear HO_12; clear HO_18; clear HO_321000; clear HO_321001; clear BK320; clear HB; have HO_7 := n0_; have HO_8 := n1_; have HO_10 := n2_; have HO_11 := n3_; have HO_12 := n4_; have HO_18 := n5_; have HO_321000 := n6_; have HO_321001 := n7_; have BK320 := n8_; have HB := n9_; clear n0_ n1_ n2_ n3_ n4_ n5_ n6_ n7_ n8_ n9_; (try clear hb); (try clear hb2); (try clear hk); (try clear hi); obtain ⟨Ao61, co61, eo61⟩ := Kd.R_slice HO_11.out; subst eo61) | (go_at_call 25; (with_reducible refine (turndownlaw08_revenue.calls k4 _ _ x11_1 _ _ t286 t329 _ ?side1 ?side2 ?side3 ?side4 A52.out).mono ?_); (case side1 => repeat (first | exact (Kd.R_reads' HO_11.out).2.2 | (with_reducible refine Kd.C_alloc ?_ _) | (with_reducible refine Kd.C_drewN ?_ _) | (with_reducible refine Kd.C_drew ?_))); (case side2 => exact (Kd.R_reads' HO_11.out).2.1); (case side3 => repeat (first | exact (Kd.R_reads' HO_7.out).2.2 | (with_reducible refine Kd.C_alloc ?_ _) | (with_reducible refine Kd.C_drewN ?_ _) | (with_reducible refine Kd.C_drew ?_))); (case side4 => exact (Kd.R_reads' HO_7.out).2.1); rintro e w62 ⟨rfl, hb⟩; have n0_ := Aside0.mk (Kd.R_below (by (with_reducible repeat (first | apply Kd.R_alloc | apply Kd.R_drewN | apply Kd.R_drew)); exact HO_7.out) hb); have n1_ := Aside0.mk (Kd.R_below (by (with_reducible repeat (first | apply Kd.R_alloc | apply Kd.R_drewN | apply Kd.R_drew)); exact HO_8.out) hb); have n2_ := Aside0.mk (Kd.R_below (by (with_reducible repeat (first | apply Kd.R_alloc | apply Kd.R_drewN | apply Kd.R_drew)); exact HO_10.out) hb); have n3_ := Aside0.mk (Kd.R_below (by (with_reducible repeat (first | apply Kd.R_alloc | apply Kd.R_drewN | apply Kd.R_drew)); exact HO_11.out) hb); have n4_ := Aside0.mk (Kd.R_below (by (with_reducible repeat (first | apply Kd.R_alloc | apply Kd.R_drewN | apply Kd.R_drew)); exact HO_12.out) hb); have n5_ := Aside0.mk (Kd.R_below (by (with_reducible repeat (first | apply Kd.R_alloc | apply Kd.R_drewN | apply Kd.R_drew)); exact HO_18.out) hb); have n6_ := Aside0.mk (Kd.R_below (by (with_reducible repeat (first | apply Kd.R_alloc | apply Kd.R_drewN | apply Kd.R_drew)); exact HO_321000.out) hb); have n7_ := Aside0.mk (Kd.R_below (by (with_reducible repeat (first | apply Kd.R_alloc | apply Kd.R_drewN | apply Kd.R_drew)); exact HO_321001.out) hb); have n8_ := Aside0.mk (blk_below (g := gb320) (o := .cells #[.slice Ao33 t312.length co33, .slice Ao35 t315.length co35] 39 (0, 0)) (by (with_reducible repeat (first | refine blk_drewN ?_ _ | refine blk_drew ?_ | refine blk_alloc ?_ _)); exact BK320.out) hb); have n9_ := Aside0.mk (below_step (by repeat (first | (with_reducible first | exact HB.out | apply below_alloc | apply pw_below_drewN | apply below_drew1 | refine below_set ?_ GE320.out) | exact HB.out)) hb); clear HO_7; clear HO_8; clear HO_10; clear HO_11; clear HO_12; clear HO_18; clear HO_321000; clear HO_321001; clear BK320; clear HB; have HO_7 := n0_; have HO_8 := n1_; have HO_10 := n2_; have HO_11 := n3_; have HO_12 := n4_; have HO_18 := n5_; have HO_321000 := n6_; have HO_321001 := n7_; have BK320 := n8_; have HB := n9_; clear n0_ n1_ n2_ n3_ n4_ n5_ n6_ n7_ n8_ n9_; (try clear hb); (try clear hb2); (try clear hk); (try clear hi)) | (go_at_call 20; (with_reducible refine (turndownlaw08_awake.calls  t330 _ A54.out).mono ?_); rintro e w63 ⟨rfl, hb⟩; have n0_ := Aside0.mk (Kd.R_below (by (with_reducible repeat (first | apply Kd.R_alloc | apply Kd.R_drewN | apply Kd.R_drew)); exact HO_7.out) hb); have n1_ := Aside0.mk (Kd.R_below (by (with_reducible repeat (first | apply Kd.R_alloc | apply Kd.R_drewN | apply Kd.R_drew)); exact HO_8.out) hb); have n2_ := Aside0.mk (Kd.R_below (by (with_reducible repeat (first | apply Kd.R_alloc | apply Kd.R_drewN | apply Kd.R_drew)); exact HO_10.out) hb); have n3_ := Aside0.mk (Kd.R_below (by (with_reducible repeat (first | apply Kd.R_alloc | apply Kd.R_drewN | apply Kd.R_drew)); exact HO_11.out) hb); have n4_ := Aside0.mk (Kd.R_below (by (with_reducible repeat (first | apply Kd.R_alloc | apply Kd.R_drewN | apply Kd.R_drew)); exact HO_12.out) hb); have n5_ := Aside0.mk (Kd.R_below (by (with_reducible repeat (first | apply Kd.R_alloc | apply Kd.R_drewN | apply Kd.R_drew)); exact HO_18.out) hb); have n6_ := Aside0.mk (Kd.R_below (by (with_reducible repeat (first | apply Kd.R_alloc | apply Kd.R_drewN | apply Kd.R_drew)); exact HO_321000.out) hb); have n7_ := Aside0.mk (Kd.R_below (by (with_reducible repeat (first | apply Kd.R_alloc | apply Kd.R_drewN | apply Kd.R_drew)); exact HO_321001.out) hb); have n8_ := Aside0.mk (blk_below (g := gb320) (o := .cells #[.slice Ao33 t312.length co33, .slice Ao35 t315.length co35] 39 (0, 0)) (by (with_reducible repeat (first | refine blk_drewN ?_ _ | refine blk_drew ?_ | refine blk_alloc ?_ _)); exact BK320.out) hb); have n9_ := Aside0.mk (below_step (by repeat (first | (with_reducible first | exact HB.out | apply below_alloc | apply pw_below_drewN | apply below_drew1 | refine below_set ?_ GE320.out) | exact HB.out)) hb); clear HO_7; clear HO_8; clear HO_10; clear HO_11; clear HO_12; clear HO_18; clear HO_321000; clear HO_321001; clear BK320; clear HB; have HO_7 := n0_; have HO_8 := n1_; have HO_10 := n2_; have HO_11 := n3_; have HO_12 := n4_; have HO_18 := n5_; have HO_321000 := n6_; have HO_321001 := n7_; have BK320 := n8_; have HB := n9_; clear n0_ n1_ n2_ n3_ n4_ n5_ n6_ n7_ n8_ n9_; (try clear hb); (try clear hb2); (try clear hk); (try clear hi)))
                                go_ret
                                exact ⟨by first | rfl | (simp [errW_none, errW_some] <;> rfl) | (simp [*, errW_none, errW_some] <;> rfl), by repeat (first | (with_reducible first | exact HB.out | apply below_alloc | apply pw_below_drewN | apply below_drew1 | refine below_set ?_ GE320.out) | exact HB.out)⟩
                              · rw [if_neg c53] at H
                                have c53b0 : (t329 == (wrap64 ((wrap64 (1 + t292)) * t318))) = false := beq_eq_false_iff_ne.mpr c53
                                have c53b1 : (t329 != (wrap64 ((wrap64 (1 + t292)) * t318))) = true := bne_iff_ne.mpr c53
                                obtain rfl := Option.some.inj H
                                have hcz64_0 : wr.cell? ⟨gb320, 0, none⟩ = some (.slice Ao33 t312.length co33) := (blk_cell BK320.out 0).trans rfl
                                have hcz64_1 : wr.cell? ⟨gb320, 1, none⟩ = some (.slice Ao35 t315.length co35) := (blk_cell BK320.out 1).trans rfl
                                have hfz64_0 := blk_frozen BK320.out 0
                                have hfz64_1 := blk_frozen BK320.out 1
                                obtain ⟨Ao65, co65, eo65⟩ := Kd.R_slice HO_10.out
                                subst eo65
                                obtain ⟨Ao66, co66, eo66⟩ := Kd.R_slice HO_12.out
                                subst eo66
                                go_wp2_with (first | ((with_reducible refine gate_callee (f := 25) rfl ?_); refine goesL_ (some 142) rfl rfl Try.func25 (by kernel_rfl) rfl #[.slice Ao65 x10_1.length co65, .slice Ao66 x12_2.length co66] rfl (by (try simp only [List.map_toArray, List.map_cons, List.map_nil]); first | done | rfl | (simp only [List.length_drop, List.length_take]; rfl)) ?_; (with_reducible refine (turndownlaw08_revenue.calls k4 _ _ x10_1 _ _ x12_2 t327 _ ?side1 ?side2 ?side3 ?side4 A48.out).mono ?_); (case side1 => repeat (first | exact (Kd.R_reads' HO_10.out).2.2 | (with_reducible refine Kd.C_alloc ?_ _) | (with_reducible refine Kd.C_drewN ?_ _) | (with_reducible refine Kd.C_drew ?_))); (case side2 => exact (Kd.R_reads' HO_10.out).2.1); (case side3 => repeat (first | exact (Kd.R_reads' HO_12.out).2.2 | (with_reducible refine Kd.C_alloc ?_ _) | (with_reducible refine Kd.C_drewN ?_ _) | (with_reducible refine Kd.C_drew ?_))); (case side4 => exact (Kd.R_reads' HO_12.out).2.1); rintro e w67 ⟨rfl, hb⟩; refine ⟨_, rfl, ?_⟩; have n0_ := Aside0.mk (Kd.R_below (by (with_reducible repeat (first | apply Kd.R_alloc | apply Kd.R_drewN | apply Kd.R_drew)); exact HO_7.out) hb); have n1_ := Aside0.mk (Kd.R_below (by (with_reducible repeat (first | apply Kd.R_alloc | apply Kd.R_drewN | apply Kd.R_drew)); exact HO_8.out) hb); have n2_ := Aside0.mk (Kd.R_below (by (with_reducible repeat (first | apply Kd.R_alloc | apply Kd.R_drewN | apply Kd.R_drew)); exact HO_10.out) hb); have n3_ := Aside0.mk (Kd.R_below (by (with_reducible repeat (first | apply Kd.R_alloc | apply Kd.R_drewN | apply Kd.R_drew)); exact HO_11.out) hb); have n4_ := Aside0.mk (Kd.R_below (by (with_reducible repeat (first | apply Kd.R_alloc | apply Kd.R_drewN | apply Kd.R_drew)); exact HO_12.out) hb); have n5_ := Aside0.mk (Kd.R_below (by (with_reducible repeat (first | apply Kd.R_alloc | apply Kd.R_drewN | apply Kd.R_drew)); exact HO_18.out) hb); have n6_ := Aside0.mk (Kd.R_below (by (with_reducible repeat (first | apply Kd.R_alloc | apply Kd.R_drewN | apply Kd.R_drew)); exact HO_321000.out) hb); have n7_ := Aside0.mk (Kd.R_below (by (with_reducible repeat (first | apply Kd.R_alloc | apply Kd.R_drewN | apply Kd.R_drew)); exact HO_321001.out) hb); have n8_ := Aside0.mk (blk_below (g := gb320) (o := .cells #[.slice Ao33 t312.length co33, .slice Ao35 t315.length co35] 39 (0, 0)) (by (with_reducible repeat (first | refine blk_drewN ?_ _ | refine blk_drew ?_ | refine blk_alloc ?_ _)); exact BK320.out) hb); have n9_ := Aside0.mk (below_step (by repeat (first | (with_reducible first | exact HB.out | apply below_alloc | apply pw_below_drewN | apply below_drew1 | refine below_set ?_ GE320.out) | exact HB.out)) hb); clear HO_7; clear HO_8; clear HO_10; clear HO_11; clear HO_12; clear HO_18; clear HO_321000; clear HO_321001; clear BK320; clear HB; have HO_7 := n0_; have HO_8 := n1_; have HO_10 := n2_; have HO_11 := n3_; have HO_12 := n4_; have HO_18 := n5_; have HO_321000 := n6_; have HO_321001 := n7_; have BK320 := n8_; have HB := n9_; clear n0_ n1_ n2_ n3_ n4_ n5_ n6_ n7_ n8_ n9_; (try clear hb); (try clear hb2); (try clear hk); (try clear hi); obtain ⟨Ao68, co68, eo68⟩ := Kd.R_slice HO_18.out; subst eo68) | (go_at_call 25; (with_reducible refine (turndownlaw08_revenue.calls k4 _ _ x18_4 _ _ t286 t328 _ ?side1 ?side2 ?side3 ?side4 A50.out).mono ?_); (case side1 => repeat (first | exact (Kd.R_reads' HO_18.out).2.2 | (with_reducible refine Kd.C_alloc ?_ _) | (with_reducible refine Kd.C_drewN ?_ _) | (with_reducible refine Kd.C_drew ?_))); (case side2 => exact (Kd.R_reads' HO_18.out).2.1); (case side3 => repeat (first | exact (Kd.R_reads' HO_7.out).2.2 | (with_reducible refine Kd.C_alloc ?_ _) | (with_reducible refine Kd.C_drewN ?_ _) | (with_reducible refine Kd.C_drew ?_))); (case side4 => exact (Kd.R_reads' HO_7.out).2.1); rintro e w69 ⟨rfl, hb⟩; have n0_ := Aside0.mk (Kd.R_below (by (with_reducible repeat (first | apply Kd.R_alloc | apply Kd.R_drewN | apply Kd.R_drew)); exact HO_7.out) hb); have n1_ := Aside0.mk (Kd.R_below (by (with_reducible repeat (first | apply Kd.R_alloc | apply Kd.R_drewN | apply Kd.R_drew)); exact HO_8.out) hb); have n2_ := Aside0.mk (Kd.R_below (by (with_reducible repeat (first | apply Kd.R_alloc | apply Kd.R_drewN | apply Kd.R_drew)); exact HO_10.out) hb); have n3_ := Aside0.mk (Kd.R_below (by (with_reducible repeat (first | apply Kd.R_alloc | apply Kd.R_drewN | apply Kd.R_drew)); exact HO_11.out) hb); have n4_ := Aside0.mk (Kd.R_below (by (with_reducible repeat (first | apply Kd.R_alloc | apply Kd.R_drewN | apply Kd.R_drew)); exact HO_12.out) hb); have n5_ := Aside0.mk (Kd.R_below (by (with_reducible repeat (first | apply Kd.R_alloc | apply Kd.R_drewN | apply Kd.R_drew)); exact HO_18.out) hb); have n6_ := Aside0.mk (Kd.R_below (by (with_reducible repeat (first | apply Kd.R_alloc | apply Kd.R_drewN | apply Kd.R_drew)); exact HO_321000.out) hb); have n7_ := Aside0.mk (Kd.R_below (by (with_reducible repeat (first | apply Kd.R_alloc | apply Kd.R_drewN | apply Kd.R_drew)); exact HO_321001.out) hb); have n8_ := Aside0.mk (blk_below (g := gb320) (o := .cells #[.slice Ao33 t312.length co33, .slice Ao35 t315.length co35] 39 (0, 0)) (by (with_reducible repeat (first | refine blk_drewN ?_ _ | refine blk_drew ?_ | refine blk_alloc ?_ _)); exact BK320.out) hb); have n9_ := Aside0.mk (below_step (by repeat (first | (with_reducible first | exact HB.out | apply below_alloc | apply pw_below_drewN | apply below_drew1 | refine below_set ?_ GE320.out) | exact HB.out)) hb); clear HO_7; clear HO_8; clear HO_10; clear HO_11; clear HO_12; clear HO_18; clear HO_321000; clear HO_321001; clear BK320; clear HB; have HO_7 := n0_; have HO_8 := n1_; have HO_10 := n2_; have HO_11 := n3_; have HO_12 := n4_; have HO_18 := n5_; have HO_321000 := n6_; have HO_321001 := n7_; have BK320 := n8_; have HB := n9_; clear n0_ n1_ n2_ n3_ n4_ n5_ n6_ n7_ n8_ n9_; (try clear hb); (try clear hb2); (try clear hk); (try clear hi); obtain ⟨Ao70, co70, eo70⟩ := Kd.R_slice HO_11.out; subst eo70) | (go_at_call 25; (with_reducible refine (turndownlaw08_revenue.calls k4 _ _ x11_1 _ _ t286 t329 _ ?side1 ?side2 ?side3 ?side4 A52.out).mono ?_); (case side1 => repeat (first | exact (Kd.R_reads' HO_11.out).2.2 | (with_reducible refine Kd.C_alloc ?_ _) | (with_reducible refine Kd.C_drewN ?_ _) | (with_reducible refine Kd.C_drew ?_))); (case side2 => exact (Kd.R_reads' HO_11.out).2.1); (case side3 => repeat (first | exact (Kd.R_reads' HO_7.out).2.2 | (with_reducible refine Kd.C_alloc ?_ _) | (with_reducible refine Kd.C_drewN ?_ _) | (with_reducible refine Kd.C_drew ?_))); (case side4 => exact (Kd.R_reads' HO_7.out).2.1); rintro e w71 ⟨rfl, hb⟩; have n0_ := Aside0.mk (Kd.R_below (by (with_reducible repeat (first | apply Kd.R_alloc | apply Kd.R_drewN | apply Kd.R_drew)); exact HO_7.out) hb); have n1_ := Aside0.mk (Kd.R_below (by (with_reducible repeat (first | apply Kd.R_alloc | apply Kd.R_drewN | apply Kd.R_drew)); exact HO_8.out) hb); have n2_ := Aside0.mk (Kd.R_below (by (with_reducible repeat (first | apply Kd.R_alloc | apply Kd.R_drewN | apply Kd.R_drew)); exact HO_10.out) hb); have n3_ := Aside0.mk (Kd.R_below (by (with_reducible repeat (first | apply Kd.R_alloc | apply Kd.R_drewN | apply Kd.R_drew)); exact HO_11.out) hb); have n4_ := Aside0.mk (Kd.R_below (by (with_reducible repeat (first | apply Kd.R_alloc | apply Kd.R_drewN | apply Kd.R_drew)); exact HO_12.out) hb); have n5_ := Aside0.mk (Kd.R_below (by (with_reducible repeat (first | apply Kd.R_alloc | apply Kd.R_drewN | apply Kd.R_drew)); exact HO_18.out) hb); have n6_ := Aside0.mk (Kd.R_below (by (with_reducible repeat (first | apply Kd.R_alloc | apply Kd.R_drewN | apply Kd.R_drew)); exact HO_321000.out) hb); have n7_ := Aside0.mk (Kd.R_below (by (with_reducible repeat (first | apply Kd.R_alloc | apply Kd.R_drewN | apply Kd.R_drew)); exact HO_321001.out) hb); have n8_ := Aside0.mk (blk_below (g := gb320) (o := .cells #[.slice Ao33 t312.length co33, .slice Ao35 t315.length co35] 39 (0, 0)) (by (with_reducible repeat (first | refine blk_drewN ?_ _ | refine blk_drew ?_ | refine blk_alloc ?_ _)); exact BK320.out) hb); have n9_ := Aside0.mk (below_step (by repeat (first | (with_reducible first | exact HB.out | apply below_alloc | apply pw_below_drewN | apply below_drew1 | refine below_set ?_ GE320.out) | exact HB.out)) hb); clear HO_7; clear HO_8; clear HO_10; clear HO_11; clear HO_12; clear HO_18; clear HO_321000; clear HO_321001; clear BK320; clear HB; have HO_7 := n0_; have HO_8 := n1_; have HO_10 := n2_; have HO_11 := n3_; have HO_12 := n4_; have HO_18 := n5_; have HO_321000 := n6_; have HO_321001 := n7_; have BK320 := n8_; have HB := n9_; clear n0_ n1_ n2_ n3_ n4_ n5_ n6_ n7_ n8_ n9_; (try clear hb); (try clear hb2); (try clear hk); (try clear hi)))
                                go_ret
                                exact ⟨by first | rfl | (simp [errW_none, errW_some] <;> rfl) | (simp [*, errW_none, errW_some] <;> rfl), by repeat (first | (with_reducible first | exact HB.out | apply below_alloc | apply pw_below_drewN | apply below_drew1 | refine below_set ?_ GE320.out) | exact HB.out)⟩
                            · rw [if_neg c51] at H
                              have c51b0 : (t328 == t318) = false := beq_eq_false_iff_ne.mpr c51
                              have c51b1 : (t328 != t318) = true := bne_iff_ne.mpr c51
                              obtain rfl := Option.some.inj H
                              have hcz72_0 : wr.cell? ⟨gb320, 0, none⟩ = some (.slice Ao33 t312.length co33) := (blk_cell BK320.out 0).trans rfl
                              have hcz72_1 : wr.cell? ⟨gb320, 1, none⟩ = some (.slice Ao35 t315.length co35) := (blk_cell BK320.out 1).trans rfl
                              have hfz72_0 := blk_frozen BK320.out 0
                              have hfz72_1 := blk_frozen BK320.out 1
                              obtain ⟨Ao73, co73, eo73⟩ := Kd.R_slice HO_10.out
                              subst eo73
                              obtain ⟨Ao74, co74, eo74⟩ := Kd.R_slice HO_12.out
                              subst eo74
                              go_wp2_with (first | ((with_reducible refine gate_callee (f := 25) rfl ?_); refine goesL_ (some 142) rfl rfl Try.func25 (by kernel_rfl) rfl #[.slice Ao73 x10_1.length co73, .slice Ao74 x12_2.length co74] rfl (by (try simp only [List.map_toArray, List.map_cons, List.map_nil]); first | done | rfl | (simp only [List.length_drop, List.length_take]; rfl)) ?_; (with_reducible refine (turndownlaw08_revenue.calls k4 _ _ x10_1 _ _ x12_2 t327 _ ?side1 ?side2 ?side3 ?side4 A48.out).mono ?_); (case side1 => repeat (first | exact (Kd.R_reads' HO_10.out).2.2 | (with_reducible refine Kd.C_alloc ?_ _) | (with_reducible refine Kd.C_drewN ?_ _) | (with_reducible refine Kd.C_drew ?_))); (case side2 => exact (Kd.R_reads' HO_10.out).2.1); (case side3 => repeat (first | exact (Kd.R_reads' HO_12.out).2.2 | (with_reducible refine Kd.C_alloc ?_ _) | (with_reducible refine Kd.C_drewN ?_ _) | (with_reducible refine Kd.C_drew ?_))); (case side4 => exact (Kd.R_reads' HO_12.out).2.1); rintro e w75 ⟨rfl, hb⟩; refine ⟨_, rfl, ?_⟩; have n0_ := Aside0.mk (Kd.R_below (by (with_reducible repeat (first | apply Kd.R_alloc | apply Kd.R_drewN | apply Kd.R_drew)); exact HO_7.out) hb); have n1_ := Aside0.mk (Kd.R_below (by (with_reducible repeat (first | apply Kd.R_alloc | apply Kd.R_drewN | apply Kd.R_drew)); exact HO_8.out) hb); have n2_ := Aside0.mk (Kd.R_below (by (with_reducible repeat (first | apply Kd.R_alloc | apply Kd.R_drewN | apply Kd.R_drew)); exact HO_10.out) hb); have n3_ := Aside0.mk (Kd.R_below (by (with_reducible repeat (first | apply Kd.R_alloc | apply Kd.R_drewN | apply Kd.R_drew)); exact HO_11.out) hb); have n4_ := Aside0.mk (Kd.R_below (by (with_reducible repeat (first | apply Kd.R_alloc | apply Kd.R_drewN | apply Kd.R_drew)); exact HO_12.out) hb); have n5_ := Aside0.mk (Kd.R_below (by (with_reducible repeat (first | apply Kd.R_alloc | apply Kd.R_drewN | apply Kd.R_drew)); exact HO_18.out) hb); have n6_ := Aside0.mk (Kd.R_below (by (with_reducible repeat (first | apply Kd.R_alloc | apply Kd.R_drewN | apply Kd.R_drew)); exact HO_321000.out) hb); have n7_ := Aside0.mk (Kd.R_below (by (with_reducible repeat (first | apply Kd.R_alloc | apply Kd.R_drewN | apply Kd.R_drew)); exact HO_321001.out) hb); have n8_ := Aside0.mk (blk_below (g := gb320) (o := .cells #[.slice Ao33 t312.length co33, .slice Ao35 t315.length co35] 39 (0, 0)) (by (with_reducible repeat (first | refine blk_drewN ?_ _ | refine blk_drew ?_ | refine blk_alloc ?_ _)); exact BK320.out) hb); have n9_ := Aside0.mk (below_step (by repeat (first | (with_reducible first | exact HB.out | apply below_alloc | apply pw_below_drewN | apply below_drew1 | refine below_set ?_ GE320.out) | exact HB.out)) hb); clear HO_7; clear HO_8; clear HO_10; clear HO_11; clear HO_12; clear HO_18; clear HO_321000; clear HO_321001; clear BK320; clear HB; have HO_7 := n0_; have HO_8 := n1_; have HO_10 := n2_; have HO_11 := n3_; have HO_12 := n4_; have HO_18 := n5_; have HO_321000 := n6_; have HO_321001 := n7_; have BK320 := n8_; have HB := n9_; clear n0_ n1_ n2_ n3_ n4_ n5_ n6_ n7_ n8_ n9_; (try clear hb); (try clear hb2); (try clear hk); (try clear hi); obtain ⟨Ao76, co76, eo76⟩ := Kd.R_slice HO_18.out; subst eo76) | (go_at_call 25; (with_reducible refine (turndownlaw08_revenue.calls k4 _ _ x18_4 _ _ t286 t328 _ ?side1 ?side2 ?side3 ?side4 A50.out).mono ?_); (case side1 => repeat (first | exact (Kd.R_reads' HO_18.out).2.2 | (with_reducible refine Kd.C_alloc ?_ _) | (with_reducible refine Kd.C_drewN ?_ _) | (with_reducible refine Kd.C_drew ?_))); (case side2 => exact (Kd.R_reads' HO_18.out).2.1); (case side3 => repeat (first | exact (Kd.R_reads' HO_7.out).2.2 | (with_reducible refine Kd.C_alloc ?_ _) | (with_reducible refine Kd.C_drewN ?_ _) | (with_reducible refine Kd.C_drew ?_))); (case side4 => exact (Kd.R_reads' HO_7.out).2.1); rintro e w77 ⟨rfl, hb⟩; have n0_ := Aside0.mk (Kd.R_below (by (with_reducible repeat (first | apply Kd.R_alloc | apply Kd.R_drewN | apply Kd.R_drew)); exact HO_7.out) hb); have n1_ := Aside0.mk (Kd.R_below (by (with_reducible repeat (first | apply Kd.R_alloc | apply Kd.R_drewN | apply Kd.R_drew)); exact HO_8.out) hb); have n2_ := Aside0.mk (Kd.R_below (by (with_reducible repeat (first | apply Kd.R_alloc | apply Kd.R_drewN | apply Kd.R_drew)); exact HO_10.out) hb); have n3_ := Aside0.mk (Kd.R_below (by (with_reducible repeat (first | apply Kd.R_alloc | apply Kd.R_drewN | apply Kd.R_drew)); exact HO_11.out) hb); have n4_ := Aside0.mk (Kd.R_below (by (with_reducible repeat (first | apply Kd.R_alloc | apply Kd.R_drewN | apply Kd.R_drew)); exact HO_12.out) hb); have n5_ := Aside0.mk (Kd.R_below (by (with_reducible repeat (first | apply Kd.R_alloc | apply Kd.R_drewN | apply Kd.R_drew)); exact HO_18.out) hb); have n6_ := Aside0.mk (Kd.R_below (by (with_reducible repeat (first | apply Kd.R_alloc | apply Kd.R_drewN | apply Kd.R_drew)); exact HO_321000.out) hb); have n7_ := Aside0.mk (Kd.R_below (by (with_reducible repeat (first | apply Kd.R_alloc | apply Kd.R_drewN | apply Kd.R_drew)); exact HO_321001.out) hb); have n8_ := Aside0.mk (blk_below (g := gb320) (o := .cells #[.slice Ao33 t312.length co33, .slice Ao35 t315.length co35] 39 (0, 0)) (by (with_reducible repeat (first | refine blk_drewN ?_ _ | refine blk_drew ?_ | refine blk_alloc ?_ _)); exact BK320.out) hb); have n9_ := Aside0.mk (below_step (by repeat (first | (with_reducible first | exact HB.out | apply below_alloc | apply pw_below_drewN | apply below_drew1 | refine below_set ?_ GE320.out) | exact HB.out)) hb); clear HO_7; clear HO_8; clear HO_10; clear HO_11; clear HO_12; clear HO_18; clear HO_321000; clear HO_321001; clear BK320; clear HB; have HO_7 := n0_; have HO_8 := n1_; have HO_10 := n2_; have HO_11 := n3_; have HO_12 := n4_; have HO_18 := n5_; have HO_321000 := n6_; have HO_321001 := n7_; have BK320 := n8_; have HB := n9_; clear n0_ n1_ n2_ n3_ n4_ n5_ n6_ n7_ n8_ n9_; (try clear hb); (try clear hb2); (try clear hk); (try clear hi)))
                              go_ret
                              exact ⟨by first | rfl | (simp [errW_none, errW_some] <;> rfl) | (simp [*, errW_none, errW_some] <;> rfl), by repeat (first | (with_reducible first | exact HB.out | apply below_alloc | apply pw_below_drewN | apply below_drew1 | refine below_set ?_ GE320.out) | exact HB.out)⟩
                          · rw [if_neg c49] at H
                            have c49b0 : (t327 == t318) = false := beq_eq_false_iff_ne.mpr c49
                            have c49b1 : (t327 != t318) = true := bne_iff_ne.mpr c49
                            obtain rfl := Option.some.inj H
                            have hcz78_0 : wr.cell? ⟨gb320, 0, none⟩ = some (.slice Ao33 t312.length co33) := (blk_cell BK320.out 0).trans rfl
                            have hcz78_1 : wr.cell? ⟨gb320, 1, none⟩ = some (.slice Ao35 t315.length co35) := (blk_cell BK320.out 1).trans rfl
                            have hfz78_0 := blk_frozen BK320.out 0
                            have hfz78_1 := blk_frozen BK320.out 1
                            obtain ⟨Ao79, co79, eo79⟩ := Kd.R_slice HO_10.out
                            subst eo79
                            obtain ⟨Ao80, co80, eo80⟩ := Kd.R_slice HO_12.out
                            subst eo80
                            go_wp2_with (first | ((with_reducible refine gate_callee (f := 25) rfl ?_); refine goesL_ (some 142) rfl rfl Try.func25 (by kernel_rfl) rfl #[.slice Ao79 x10_1.length co79, .slice Ao80 x12_2.length co80] rfl (by (try simp only [List.map_toArray, List.map_cons, List.map_nil]); first | done | rfl | (simp only [List.length_drop, List.length_take]; rfl)) ?_; (with_reducible refine (turndownlaw08_revenue.calls k4 _ _ x10_1 _ _ x12_2 t327 _ ?side1 ?side2 ?side3 ?side4 A48.out).mono ?_); (case side1 => repeat (first | exact (Kd.R_reads' HO_10.out).2.2 | (with_reducible refine Kd.C_alloc ?_ _) | (with_reducible refine Kd.C_drewN ?_ _) | (with_reducible refine Kd.C_drew ?_))); (case side2 => exact (Kd.R_reads' HO_10.out).2.1); (case side3 => repeat (first | exact (Kd.R_reads' HO_12.out).2.2 | (with_reducible refine Kd.C_alloc ?_ _) | (with_reducible refine Kd.C_drewN ?_ _) | (with_reducible refine Kd.C_drew ?_))); (case side4 => exact (Kd.R_reads' HO_12.out).2.1); rintro e w81 ⟨rfl, hb⟩; refine ⟨_, rfl, ?_⟩; have n0_ := Aside0.mk (Kd.R_below (by (with_reducible repeat (first | apply Kd.R_alloc | apply Kd.R_drewN | apply Kd.R_drew)); exact HO_7.out) hb); have n1_ := Aside0.mk (Kd.R_below (by (with_reducible repeat (first | apply Kd.R_alloc | apply Kd.R_drewN | apply Kd.R_drew)); exact HO_8.out) hb); have n2_ := Aside0.mk (Kd.R_below (by (with_reducible repeat (first | apply Kd.R_alloc | apply Kd.R_drewN | apply Kd.R_drew)); exact HO_10.out) hb); have n3_ := Aside0.mk (Kd.R_below (by (with_reducible repeat (first | apply Kd.R_alloc | apply Kd.R_drewN | apply Kd.R_drew)); exact HO_11.out) hb); have n4_ := Aside0.mk (Kd.R_below (by (with_reducible repeat (first | apply Kd.R_alloc | apply Kd.R_drewN | apply Kd.R_drew)); exact HO_12.out) hb); have n5_ := Aside0.mk (Kd.R_below (by (with_reducible repeat (first | apply Kd.R_alloc | apply Kd.R_drewN | apply Kd.R_drew)); exact HO_18.out) hb); have n6_ := Aside0.mk (Kd.R_below (by (with_reducible repeat (first | apply Kd.R_alloc | apply Kd.R_drewN | apply Kd.R_drew)); exact HO_321000.out) hb); have n7_ := Aside0.mk (Kd.R_below (by (with_reducible repeat (first | apply Kd.R_alloc | apply Kd.R_drewN | apply Kd.R_drew)); exact HO_321001.out) hb); have n8_ := Aside0.mk (blk_below (g := gb320) (o := .cells #[.slice Ao33 t312.length co33, .slice Ao35 t315.length co35] 39 (0, 0)) (by (with_reducible repeat (first | refine blk_drewN ?_ _ | refine blk_drew ?_ | refine blk_alloc ?_ _)); exact BK320.out) hb); have n9_ := Aside0.mk (below_step (by repeat (first | (with_reducible first | exact HB.out | apply below_alloc | apply pw_below_drewN | apply below_drew1 | refine below_set ?_ GE320.out) | exact HB.out)) hb); clear HO_7; clear HO_8; clear HO_10; clear HO_11; clear HO_12; clear HO_18; clear HO_321000; clear HO_321001; clear BK320; clear HB; have HO_7 := n0_; have HO_8 := n1_; have HO_10 := n2_; have HO_11 := n3_; have HO_12 := n4_; have HO_18 := n5_; have HO_321000 := n6_; have HO_321001 := n7_; have BK320 := n8_; have HB := n9_; clear n0_ n1_ n2_ n3_ n4_ n5_ n6_ n7_ n8_ n9_; (try clear hb); (try clear hb2); (try clear hk); (try clear hi)))
                            go_ret
                            exact ⟨by first | rfl | (simp [errW_none, errW_some] <;> rfl) | (simp [*, errW_none, errW_some] <;> rfl), by repeat (first | (with_reducible first | exact HB.out | apply below_alloc | apply pw_below_drewN | apply below_drew1 | refine below_set ?_ GE320.out) | exact HB.out)⟩
end Go.Proofs.Ytpjobcnfjpbaeaa.PA

namespace Go.Proofs.Ytpjobcnfjpbaeaa.M
open Go.RowKit Go.Proofs.YtpjobcnfjpbaeaaW.PrintWords Go.Proofs.YtpjobcnfjpbaeaaW.PrintLast Go.Proofs.YtpjobcnfjpbaeaaW.PrintMore
open Go.Proofs.Ytpjobcnfjpbaeaa.PA Go.Proofs.Ytpjobcnfjpbaeaa.A
structure Ext (I I' : Inst) (p : Int) (c : Nat → Int) : Prop where
  L : I'.L = I.L + 1
  n : I'.n = I.n
  R : ∀ k, k < I.n → I'.R k = I.R k
  cov : ∀ i k, i < I.L → I'.cov i k = I.cov i k
  pr : ∀ i, i < I.L → I'.p i = I.p i
  covL : ∀ k, I'.cov I.L k = c k
  pL : I'.p I.L = p
theorem Ext.rev {I I' : Inst} {p : Int} {c : Nat → Int} (h : Ext I I' p c) (X : Nat → Int) : I'.Rev X = I.Rev X + X I.L * p := by
  unfold Inst.Rev
  rw [h.L, sumTo, h.pL, sumTo_congr (g := fun i => X i * I.p i) (fun i hi => by rw [h.pr i hi])]
theorem Ext.sum {I I' : Inst} {p : Int} {c : Nat → Int} (h : Ext I I' p c) (X : Nat → Int) (k : Nat) : sumTo I'.L (fun i => X i * I'.cov i k) = sumTo I.L (fun i => X i * I.cov i k) + X I.L * c k := by
  rw [h.L, sumTo, h.covL, sumTo_congr (g := fun i => X i * I.cov i k) (fun i hi => by rw [h.cov i k hi])]
theorem upd_rev {I : Inst} (X : Nat → Int) (y : Int) : I.Rev (upd X I.L y) = I.Rev X := by
  unfold Inst.Rev
  exact sumTo_congr (fun i hi => by rw [upd_ne (by omega)])
theorem upd_used {I : Inst} (X : Nat → Int) (y : Int) (k : Nat) : sumTo I.L (fun i => upd X I.L y i * I.cov i k) = sumTo I.L (fun i => X i * I.cov i k) := sumTo_congr (fun i hi => by rw [upd_ne (by omega)])
theorem Ext.one {I I' : Inst} {p : Int} {c : Nat → Int} (h : Ext I I' p c) {X : Nat → Int} (hX : ∀ i, i < I.L → X i = 0 ∨ X i = 1) {y : Int} (hy : y = 0 ∨ y = 1) : ∀ i, i < I'.L → upd X I.L y i = 0 ∨ upd X I.L y i = 1 := by
  intro i hi
  rw [h.L] at hi
  by_cases e : i = I.L
  · rw [e, upd_same]; exact hy
  · rw [upd_ne e]; exact hX i (by omega)
structure Cut (I J : Inst) (c : Nat → Int) : Prop where
  L : J.L = I.L
  n : J.n = I.n
  cov : ∀ i k, i < I.L → J.cov i k = I.cov i k
  pr : ∀ i, i < I.L → J.p i = I.p i
  R : ∀ k, k < I.n → J.R k = I.R k - c k
theorem Cut.rev {I J : Inst} {c : Nat → Int} (h : Cut I J c) (X : Nat → Int) : J.Rev X = I.Rev X := by
  unfold Inst.Rev
  rw [h.L]
  exact sumTo_congr (fun i hi => by rw [h.pr i hi])
theorem Cut.sum {I J : Inst} {c : Nat → Int} (h : Cut I J c) (X : Nat → Int) (k : Nat) : sumTo J.L (fun i => X i * J.cov i k) = sumTo I.L (fun i => X i * I.cov i k) := by
  rw [h.L]
  exact sumTo_congr (fun i hi => by rw [h.cov i k hi])
theorem Ext.down {I I' : Inst} {p : Int} {c : Nat → Int} (h : Ext I I' p c) (hc : ∀ k, 0 ≤ c k) {X : Nat → Int} (hX : I'.Fit X) : I.Fit X := by
  refine ⟨fun i hi => hX.one i (by rw [h.L]; omega), fun k hk => ?_⟩
  have h1 := hX.fit k (by rw [h.n]; exact hk)
  rw [h.sum, h.R k hk] at h1
  have h2 := hc k
  rcases hX.one I.L (by rw [h.L]; omega) with e | e <;> rw [e] at h1 <;> omega
theorem Ext.up0 {I I' : Inst} {p : Int} {c : Nat → Int} (h : Ext I I' p c) {X : Nat → Int} (hX : I.Fit X) : I'.Fit (upd X I.L 0) := by
  refine ⟨h.one hX.one (.inl rfl), fun k hk => ?_⟩
  rw [h.n] at hk
  rw [h.sum, h.R k hk, upd_same, upd_used, Int.zero_mul, Int.add_zero]
  exact hX.fit k hk
theorem Ext.worth {I I' J : Inst} {p : Int} {c : Nat → Int} (h : Ext I I' p c) (hJ : Cut I J c) (hI : I.Ok) (hI' : I'.Ok) (okJ : J.Ok) (hc : ∀ k, 0 ≤ c k) {n m v : Int} (hn : I.Opt n) (hm : I'.Opt m) (hv : J.Opt v) : m = max n (p + v) := by
  have h1 : n ≤ m := by
    obtain ⟨X, q, hX, _, hr, _⟩ := hn
    have := hm.max hI' (h.up0 hX)
    rw [h.rev, upd_same, upd_rev, Int.zero_mul, Int.add_zero, hr] at this
    exact this
  have h2 : p + v ≤ m := by
    obtain ⟨X, q, hX, _, hr, _⟩ := hv
    have hf : I'.Fit (upd X I.L 1) := by
      refine ⟨h.one (fun i hi => hX.one i (by rw [hJ.L]; exact hi)) (.inr rfl), fun k hk => ?_⟩
      rw [h.n] at hk
      rw [h.sum, h.R k hk, upd_same, upd_used, Int.one_mul]
      have := hX.fit k (by rw [hJ.n]; exact hk)
      rw [hJ.sum, hJ.R k hk] at this
      omega
    have := hm.max hI' hf
    rw [h.rev, upd_same, upd_rev, Int.one_mul] at this
    rw [hJ.rev] at hr
    omega
  have h3 : m ≤ n ∨ m ≤ p + v := by
    obtain ⟨X, q, hX, _, hr, _⟩ := hm
    rw [h.rev] at hr
    rcases hX.one I.L (by rw [h.L]; omega) with e | e
    · left
      have := hn.max hI (h.down hc hX)
      rw [e] at hr
      omega
    · right
      have hf : J.Fit X := by
        refine ⟨fun i hi => hX.one i (by rw [h.L]; rw [hJ.L] at hi; omega), fun k hk => ?_⟩
        rw [hJ.n] at hk
        have h4 := hX.fit k (by rw [h.n]; exact hk)
        rw [h.sum, h.R k hk, e, Int.one_mul] at h4
        rw [hJ.sum, hJ.R k hk]
        omega
      have := hv.max okJ hf
      rw [hJ.rev] at this
      rw [e] at hr
      omega
  omega
structure Dear (I J : Inst) (j : Nat) (d : Int) : Prop where
  L : J.L = I.L
  n : J.n = I.n
  R : ∀ k, k < I.n → J.R k = I.R k
  cov : ∀ i k, i < I.L → J.cov i k = I.cov i k
  pr : ∀ i, i < I.L → i ≠ j → J.p i = I.p i
  lt : j < I.L
  at_ : J.p j = I.p j + d
theorem Dear.rev {I J : Inst} {j : Nat} {d : Int} (h : Dear I J j d) (X : Nat → Int) : J.Rev X = I.Rev X + X j * d := by
  unfold Inst.Rev
  rw [h.L, sumTo_one (f := fun i => X i * I.p i) h.lt (fun i hi hne => by rw [h.pr i hi hne]), h.at_, Int.mul_add]
  omega
theorem Dear.sum {I J : Inst} {j : Nat} {d : Int} (h : Dear I J j d) (X : Nat → Int) (k : Nat) : sumTo J.L (fun i => X i * J.cov i k) = sumTo I.L (fun i => X i * I.cov i k) := by
  rw [h.L]
  exact sumTo_congr (fun i hi => by rw [h.cov i k hi])
theorem Dear.fit {I J : Inst} {j : Nat} {d : Int} (h : Dear I J j d) {X : Nat → Int} : J.Fit X ↔ I.Fit X := by
  constructor
  · intro hX
    refine ⟨fun i hi => hX.one i (by rw [h.L]; exact hi), fun k hk => ?_⟩
    have := hX.fit k (by rw [h.n]; exact hk)
    rw [h.sum, h.R k hk] at this
    exact this
  · intro hX
    refine ⟨fun i hi => hX.one i (by rw [h.L] at hi; exact hi), fun k hk => ?_⟩
    rw [h.n] at hk
    rw [h.sum, h.R k hk]
    exact hX.fit k hk
def covL (x : S47) (k : Nat) : Int := if x.f0.toNat ≤ k ∧ k < x.f1.toNat then 1 else 0
end Go.Proofs.Ytpjobcnfjpbaeaa.M

namespace Go.Proofs.Ytpjobcnfjpbaeaa.M
open Go.RowKit Go.Proofs.YtpjobcnfjpbaeaaW.PrintWords Go.Proofs.YtpjobcnfjpbaeaaW.PrintLast Go.Proofs.YtpjobcnfjpbaeaaW.PrintMore
open Go.Proofs.Ytpjobcnfjpbaeaa.PA Go.Proofs.Ytpjobcnfjpbaeaa.A
structure Mirror (I J : Inst) : Prop where
  L : J.L = I.L
  n : J.n = I.n
  pr : ∀ i, i < I.L → J.p i = I.p i
  cov : ∀ i k, i < I.L → k < I.n → J.cov i k = I.cov i (I.n - 1 - k)
  R : ∀ k, k < I.n → J.R k = I.R (I.n - 1 - k)
theorem Mirror.rev {I J : Inst} (h : Mirror I J) (X : Nat → Int) : J.Rev X = I.Rev X := by
  unfold Inst.Rev
  rw [h.L]
  exact sumTo_congr (fun i hi => by rw [h.pr i hi])
theorem Mirror.fit {I J : Inst} (h : Mirror I J) {X : Nat → Int} : J.Fit X ↔ I.Fit X := by
  constructor
  · intro hX
    refine ⟨fun i hi => hX.one i (by rw [h.L]; exact hi), fun k hk => ?_⟩
    have h1 := hX.fit (I.n - 1 - k) (by rw [h.n]; omega)
    rw [h.L, h.R _ (by omega), sumTo_congr (g := fun i => X i * I.cov i k) (fun i hi => by rw [h.cov i _ hi (by omega), show I.n - 1 - (I.n - 1 - k) = k by omega])] at h1
    rw [show I.n - 1 - (I.n - 1 - k) = k by omega] at h1
    exact h1
  · intro hX
    refine ⟨fun i hi => hX.one i (by rw [h.L] at hi; exact hi), fun k hk => ?_⟩
    rw [h.n] at hk
    rw [h.L, h.R k hk, sumTo_congr (g := fun i => X i * I.cov i (I.n - 1 - k)) (fun i hi => by rw [h.cov i k hi hk])]
    exact hX.fit _ (by omega)
theorem Mirror.opt {I J : Inst} (h : Mirror I J) (hI : I.Ok) (hJ : J.Ok) {v w : Int} (hv : I.Opt v) (hw : J.Opt w) : w = v := by
  obtain ⟨X, _, hX, _, hr, _⟩ := id hv
  obtain ⟨Y, _, hY, _, hs, _⟩ := id hw
  have h1 := hw.max hJ (h.fit.2 hX)
  have h2 := hv.max hI (h.fit.1 hY)
  rw [h.rev] at h1 hs
  omega
structure Scaled (I J : Inst) (c : Int) : Prop where
  L : J.L = I.L
  n : J.n = I.n
  pr : ∀ i, i < I.L → J.p i = c * I.p i
  cov : ∀ i k, i < I.L → J.cov i k = I.cov i k
  R : ∀ k, k < I.n → J.R k = I.R k
theorem Scaled.rev {I J : Inst} {c : Int} (h : Scaled I J c) (X : Nat → Int) : J.Rev X = c * I.Rev X := by
  unfold Inst.Rev
  rw [h.L, ← sumTo_mul]
  exact sumTo_congr (fun i hi => by rw [h.pr i hi, ← Int.mul_assoc, Int.mul_comm (X i) c, Int.mul_assoc])
theorem Scaled.fit {I J : Inst} {c : Int} (h : Scaled I J c) {X : Nat → Int} : J.Fit X ↔ I.Fit X := by
  constructor
  · intro hX
    refine ⟨fun i hi => hX.one i (by rw [h.L]; exact hi), fun k hk => ?_⟩
    have h1 := hX.fit k (by rw [h.n]; exact hk)
    rw [h.L, h.R k hk, sumTo_congr (g := fun i => X i * I.cov i k) (fun i hi => by rw [h.cov i k hi])] at h1
    exact h1
  · intro hX
    refine ⟨fun i hi => hX.one i (by rw [h.L] at hi; exact hi), fun k hk => ?_⟩
    rw [h.n] at hk
    rw [h.L, h.R k hk, sumTo_congr (g := fun i => X i * I.cov i k) (fun i hi => by rw [h.cov i k hi])]
    exact hX.fit k hk
theorem Scaled.opt {I J : Inst} {c : Int} (h : Scaled I J c) (hc : 0 ≤ c) (hI : I.Ok) (hJ : J.Ok) {v w : Int} (hv : I.Opt v) (hw : J.Opt w) : w = c * v := by
  obtain ⟨X, _, hX, _, hr, _⟩ := id hv
  obtain ⟨Y, _, hY, _, hs, _⟩ := id hw
  have h1 := hw.max hJ (h.fit.2 hX)
  have h2 := Int.mul_le_mul_of_nonneg_left (hv.max hI (h.fit.1 hY)) hc
  rw [h.rev] at h1 hs
  rw [hr] at h1
  omega
theorem sumTo_lsum (h : Nat → Int) : ∀ tk : List Int, sumTo tk.length (fun j => h (tk.getD j 0).toNat) = lsum h tk
  | [] => rfl
  | x :: xs => by
    have e := sumTo_lsum h xs
    rw [lsum, ← e, List.length_cons, Nat.add_comm, sumTo_split]
    simp only [sumTo]
    have e1 : sumTo xs.length (fun i => h ((x :: xs).getD (1 + i) 0).toNat) = sumTo xs.length (fun j => h (xs.getD j 0).toNat) := sumTo_congr (fun i _ => by rw [Nat.add_comm 1 i]; rfl)
    rw [e1]
    show 0 + h ((x :: xs).getD 0 0).toNat + _ = _
    simp
def pickL (l : List S47) (tk : List Int) : List S47 := tk.map (fun x => l.getD x.toNat z47)
theorem pickL_getD (l : List S47) (tk : List Int) {j : Nat} (hj : j < tk.length) : (pickL l tk).getD j z47 = l.getD (tk.getD j 0).toNat z47 := by
  unfold pickL
  rw [List.getD_eq_getElem?_getD, List.getElem?_map, List.getElem?_eq_getElem hj, List.getD_eq_getElem?_getD (l := tk), List.getElem?_eq_getElem hj]
  rfl
theorem only_opt {l : List S47} {r tk : List Int} (ha : Asc l.length tk) (hf : (inst l r).Fit (ind tk)) (hJ : (inst (pickL l tk) r).Ok) {v w : Int} (hv : (inst l r).Rev (ind tk) = v) (hw : (inst (pickL l tk) r).Opt w) : w = v := by
  have hL : (inst (pickL l tk) r).L = tk.length := by simp [inst, pickL]
  have hrev : (inst (pickL l tk) r).Rev (fun _ => 1) = v := by
    rw [← hv]
    unfold Inst.Rev
    rw [hL]
    have e := sumTo_lsum (inst l r).p tk
    have e2 := lsum_ind (inst l r).p ha
    show sumTo tk.length _ = sumTo l.length _
    rw [← e2, ← e]
    refine sumTo_congr (fun j hj => ?_)
    rw [Int.one_mul]
    show ((pickL l tk).getD j z47).f2 = (l.getD (tk.getD j 0).toNat z47).f2
    rw [pickL_getD l tk hj]
  have hfit : (inst (pickL l tk) r).Fit (fun _ => 1) := by
    refine ⟨fun i _ => .inr rfl, fun k hk => ?_⟩
    have h1 := hf.fit k hk
    refine Int.le_trans (Int.le_of_eq ?_) h1
    rw [hL]
    have e := sumTo_lsum (fun i => (inst l r).cov i k) tk
    have e2 := lsum_ind (fun i => (inst l r).cov i k) ha
    show sumTo tk.length _ = sumTo l.length _
    rw [← e2, ← e]
    refine sumTo_congr (fun j hj => ?_)
    rw [Int.one_mul]
    simp only [Inst.cov, inst, pickL_getD l tk hj]
    exact ite_congr rfl (fun _ => rfl) (fun _ => rfl)
  have h1 := hw.max hJ hfit
  obtain ⟨Y, _, hY, _, hs, _⟩ := hw
  have h2 : (inst (pickL l tk) r).Rev Y ≤ (inst (pickL l tk) r).Rev (fun _ => 1) := by
    unfold Inst.Rev
    refine sumTo_le (fun i hi => ?_)
    have hp := (hJ.price i hi).1
    show Y i * _ ≤ 1 * _
    rcases hY.one i hi with e | e <;> rw [e] <;> omega
  omega
end Go.Proofs.Ytpjobcnfjpbaeaa.M

namespace Go.Proofs.Ytpjobcnfjpbaeaa.M
open Go.RowKit Go.Proofs.YtpjobcnfjpbaeaaW.PrintWords Go.Proofs.YtpjobcnfjpbaeaaW.PrintLast Go.Proofs.YtpjobcnfjpbaeaaW.PrintMore
open Go.Proofs.Ytpjobcnfjpbaeaa.PA Go.Proofs.Ytpjobcnfjpbaeaa.A
def flipB (n : Int) (x : S47) : S47 := ⟨n - x.f1, n - x.f0, x.f2⟩
def dearB (k : Int) (x : S47) : S47 := ⟨x.f0, x.f1, k * x.f2⟩
theorem map_getD (g : S47 → S47) (l : List S47) {i : Nat} (hi : i < l.length) : (l.map g).getD i z47 = g (l.getD i z47) := by
  rw [List.getD_eq_getElem?_getD, List.getElem?_map, List.getElem?_eq_getElem hi, List.getD_eq_getElem?_getD, List.getElem?_eq_getElem hi]; rfl
theorem mem_getD {l : List S47} {i : Nat} (hi : i < l.length) : l.getD i z47 ∈ l := by rw [List.getD_eq_getElem?_getD, List.getElem?_eq_getElem hi]; exact List.getElem_mem hi
theorem good_flip {l : List S47} {r : List Int} (hg : A.Good l r) : A.Good (l.map (flipB r.length)) r.reverse := by
  refine ⟨by rw [List.length_map]; exact hg.many, by rw [List.length_reverse]; exact hg.nights, fun y hy => hg.room y (List.mem_reverse.1 hy), fun y hy => ?_, fun y hy => ?_⟩
  · obtain ⟨x, hx, rfl⟩ := List.mem_map.1 hy
    have := hg.from_ x hx
    rw [List.length_reverse]
    simp only [flipB]
    omega
  · obtain ⟨x, hx, rfl⟩ := List.mem_map.1 hy
    exact hg.price x hx
theorem mirror_of {l : List S47} {r : List Int} (hg : A.Good l r) : Mirror (inst l r) (inst (l.map (flipB r.length)) r.reverse) := {
  L := by simp [inst]
  n := by simp [inst]
  pr := fun i hi => by
    have hi' : i < l.length := hi
    simp only [inst, map_getD _ _ hi', flipB]
  cov := fun i k hi hk => by
    have hi' : i < l.length := hi
    have hk' : k < r.length := hk
    have h := hg.from_ _ (mem_getD hi')
    simp only [Inst.cov, inst, map_getD _ _ hi', flipB]
    obtain ⟨x, hx⟩ : ∃ x, x = l.getD i z47 := ⟨_, rfl⟩
    simp only [← hx] at h ⊢
    by_cases c : x.f0.toNat ≤ r.length - 1 - k ∧ r.length - 1 - k < x.f1.toNat
    · rw [if_pos c, if_pos (by omega)]
    · rw [if_neg c, if_neg (by omega)]
  R := fun k hk => by
    have hk' : k < r.length := hk
    show r.reverse.getD k 0 = r.getD (r.length - 1 - k) 0
    rw [List.getD_eq_getElem?_getD, List.getElem?_reverse hk', List.getD_eq_getElem?_getD] }
theorem scaled_of {l : List S47} {r : List Int} (k : Int) : Scaled (inst l r) (inst (l.map (dearB k)) r) k := {
  L := by simp [inst]
  n := rfl
  pr := fun i hi => by
    have hi' : i < l.length := hi
    simp only [inst, map_getD _ _ hi', dearB]
  cov := fun i j hi => by
    have hi' : i < l.length := hi
    simp only [Inst.cov, inst, map_getD _ _ hi', dearB]
    exact ite_congr rfl (fun _ => rfl) (fun _ => rfl)
  R := fun _ _ => rfl }
theorem good_dearB {l : List S47} {r : List Int} (hg : A.Good l r) {k : Int} (hk : 0 ≤ k) (hp : ∀ x ∈ l, k * x.f2 ≤ 1000000) : A.Good (l.map (dearB k)) r := by
  refine ⟨by rw [List.length_map]; exact hg.many, hg.nights, hg.room, fun y hy => ?_, fun y hy => ?_⟩
  · obtain ⟨x, hx, rfl⟩ := List.mem_map.1 hy
    exact hg.from_ x hx
  · obtain ⟨x, hx, rfl⟩ := List.mem_map.1 hy
    exact ⟨Int.mul_nonneg hk (hg.price x hx).1, hp x hx⟩
theorem good_pick {l : List S47} {r tk : List Int} (hg : A.Good l r) (ha : Asc l.length tk) : A.Good (pickL l tk) r := by
  have hm : ∀ y ∈ pickL l tk, y ∈ l := fun y hy => by
    obtain ⟨x, hx, rfl⟩ := List.mem_map.1 hy
    have := ha.rng x hx
    exact mem_getD (by omega)
  refine ⟨?_, hg.nights, hg.room, fun y hy => hg.from_ y (hm y hy), fun y hy => hg.price y (hm y hy)⟩
  have := asc_len ha
  have := hg.many
  unfold pickL
  rw [List.length_map]
  omega
end Go.Proofs.Ytpjobcnfjpbaeaa.M

namespace Go.Proofs.Ytpjobcnfjpbaeaa.N
open Go.RowKit Go.Proofs.YtpjobcnfjpbaeaaW.PrintWords Go.Proofs.YtpjobcnfjpbaeaaW.PrintLast Go.Proofs.YtpjobcnfjpbaeaaW.PrintMore
open Go.Proofs.Ytpjobcnfjpbaeaa.PA Go.Proofs.Ytpjobcnfjpbaeaa.M Go.Proofs.Ytpjobcnfjpbaeaa.A
theorem accept_ev {l : List S47} {r : List Int} (hg : A.Good l r) : ∃ tk pr v, Ev (fun k => rooms_Accept.f k l r) (tk, pr, v, 0) ∧ RightP l r tk pr ∧ (inst l r).Rev (ind tk) = v ∧ (inst l r).Opt v ∧ 0 ≤ v ∧ v ≤ 40000000 ∧ tk.length ≤ 40 := by
  obtain ⟨K, tk, pr, v, h, h1⟩ := best_right hg
  refine ⟨tk, pr, v, ⟨K, fun k hk => ?_⟩, h1⟩
  show rooms_Accept.f k l r = _
  unfold rooms_Accept.f
  rw [checkB_iff.2 hg, if_pos rfl, h k hk]
  rfl
theorem revenue_ev {l : List S47} {r : List Int} (hg : A.Good l r) : ∃ v, Ev (fun k => turndownlaw08_revenue.f k l r) v ∧ (inst l r).Opt v ∧ 0 ≤ v ∧ v ≤ 40000000 := by
  obtain ⟨tk, pr, v, h, _, _, h2, h3, h4, _⟩ := accept_ev hg
  refine ⟨v, ?_, h2, h3, h4⟩
  unfold turndownlaw08_revenue.f
  exact h.bind ⟨0, fun _ _ => by simp⟩
theorem tamed_ev (l : List Int) : ∃ r, Ev (fun k => turndownlaw08_tamed.f k l) r ∧ RoomsOK r := by
  obtain ⟨r, h1, h2⟩ := tamed_l0 l (min l.length 60) 0 [] (by omega) rfl (by simp)
  exact ⟨r, h1, h2⟩
def prm (x : S47) : S47 := ⟨x.f0, x.f1, modV x.f2 100001⟩
theorem prm_ok (x : S47) : 0 ≤ (prm x).f2 ∧ (prm x).f2 ≤ 100000 ∧ turndownlaw08_mod.f x.f2 100001 = some (prm x).f2 := by
  have h := modV_bd (x := x.f2) (n := 100001) (by omega) (by omega)
  refine ⟨h.1, ?_, h.2.2⟩
  have := h.2.1
  show modV x.f2 100001 ≤ 100000
  omega
theorem good_prm {l : List S47} {r : List Int} (hg : A.Good l r) : A.Good (l.map prm) r := by
  refine ⟨by rw [List.length_map]; exact hg.many, hg.nights, hg.room, fun y hy => ?_, fun y hy => ?_⟩
  · obtain ⟨x, hx, rfl⟩ := List.mem_map.1 hy
    exact hg.from_ x hx
  · obtain ⟨x, hx, rfl⟩ := List.mem_map.1 hy
    have := prm_ok x
    omega
def tb (b : List S47) (i : Nat) : List S47 := (b.take i).map prm ++ b.drop i
theorem tb_len (b : List S47) (i : Nat) : (tb b i).length = b.length := by unfold tb; simp; omega
theorem tb_at {b : List S47} {i : Nat} (h : i < b.length) : (tb b i).getD i z47 = b.getD i z47 := by
  unfold tb
  rw [List.getD_eq_getElem?_getD, List.getElem?_append_right (by simp; omega), List.getD_eq_getElem?_getD]
  simp [List.length_take, Nat.min_eq_left (Nat.le_of_lt h)]
theorem tb_set {b : List S47} {i : Nat} (h : i < b.length) : (tb b i).set i (prm (b.getD i z47)) = tb b (i + 1) := by
  unfold tb
  have hl : ((b.take i).map prm).length = i := by simp; omega
  rw [List.set_append_right _ _ (by omega), hl, Nat.sub_self, drop_cons (z := z47) h, List.set_cons_zero, List.take_succ_eq_append_getElem h, List.map_append, List.append_assoc]
  simp [List.getD_eq_getElem?_getD, List.getElem?_eq_getElem h]
theorem tb_at' {b : List S47} {i : Nat} (h : i < b.length) : (tb b (i + 1)).getD i z47 = prm (b.getD i z47) := by
  rw [← tb_set h, List.getD_eq_getElem?_getD, List.getElem?_set_self (by rw [tb_len]; exact h)]; rfl
theorem tb_end (b : List S47) : tb b b.length = b.map prm := by unfold tb; simp
theorem take_snoc {α β : Type} (g : α → β) {b : List α} {i : Nat} (z : α) (h : i < b.length) : (b.take i).map g ++ [g (b.getD i z)] = (b.take (i + 1)).map g := by
  rw [List.take_succ_eq_append_getElem h, List.map_append, List.getD_eq_getElem?_getD, List.getElem?_eq_getElem h]; rfl
theorem turned_l2 {own : List Int} {b : List S47} {back dear : List S47} {nights : List Int} {kk n a : Int} {tk pr : List Int} (hlen : b.length ≤ 1000) (ha : Asc b.length tk) (ht : tk.length ≤ 40)
    (h1 : Ev (fun k => turndownlaw08_revenue.f k back nights) n) (h2 : Ev (fun k => turndownlaw08_revenue.f k (pickL b tk) own) n) (h3 : Ev (fun k => turndownlaw08_revenue.f k dear own) a) (hk : wrap64 (kk * n) = a) :
    ∀ d i, i + d = tk.length → Ev (fun k => turndownlaw08_RoomsTurned.l2 k own b kk back dear nights n (pickL b (tk.take i)) (i : Int) tk pr) true := by
  intro d
  induction d with
  | zero =>
    intro i hi
    have e : tk.take i = tk := List.take_of_length_le (by omega)
    rw [e]
    have : Ev (fun k => ((turndownlaw08_revenue.f k back nights).bind fun t314 => (if t314 = n then ((turndownlaw08_revenue.f k (pickL b tk) own).bind fun t315 => (if t315 = n then ((turndownlaw08_revenue.f k dear own).bind fun t316 => (if t316 = (wrap64 (kk * n)) then ((turndownlaw08_awake.f).bind fun t317 => (some t317)) else (some false))) else (some false))) else (some false)))) true := by
      refine h1.bind ?_
      simp only [if_pos]
      refine h2.bind ?_
      simp only [if_pos]
      refine h3.bind ?_
      simp only [hk, if_pos]
      exact Ev.now _
    refine Ev.step (fun k => ?_) this
    rw [turndownlaw08_RoomsTurned.l2, if_neg (by omega)]
  | succ d ih =>
    intro i hi
    have hlt : i < tk.length := by omega
    have hr := ha.rng (tk.getD i 0) (by rw [List.getD_eq_getElem?_getD, List.getElem?_eq_getElem hlt]; exact List.getElem_mem hlt)
    refine Ev.step (fun k => ?_) (ih (i + 1) (by omega))
    have hpl : (pickL b (tk.take i)).length = i := by unfold pickL; simp; omega
    have hp : pickL b (tk.take i) ++ [b.getD (tk.getD i 0).toNat z47] = pickL b (tk.take (i + 1)) := take_snoc (fun x : Int => b.getD x.toNat z47) 0 hlt
    rw [turndownlaw08_RoomsTurned.l2, if_pos (by omega), if_pos (by omega), rdI, if_pos hr.1, if_pos hr.2, if_pos (by omega), wrap_succ hlt (by omega), ← hp]
    rfl
theorem turned_l1 {own : List Int} {b back dear : List S47} {kk : Int} {R : Nat → Option Bool} (hn : own.length ≤ 60)
    (h : ∀ k, R k = (fun nights => (rooms_Accept.f k b own).bind fun bt299 => (if bt299.2.2.2 = 0 then ((turndownref08_Fits.f k b own bt299.1).bind fun t308 => (turndownlaw08_RoomsTurned.j2 k own b kk back dear nights bt299.2.2.1 (!t308) bt299.1 bt299.2.1)) else (turndownlaw08_RoomsTurned.j2 k own b kk back dear nights bt299.2.2.1 true bt299.1 bt299.2.1))) own.reverse) (hR : Ev R true) :
    ∀ i, i ≤ own.length → Ev (fun k => turndownlaw08_RoomsTurned.l1 k own b kk back dear ((own.drop i).reverse) ((i : Int) - 1)) true := by
  intro i
  induction i with
  | zero =>
    intro _
    refine Ev.step (fun k => ?_) hR
    rw [turndownlaw08_RoomsTurned.l1, if_neg (by omega), h]
    rfl
  | succ i ih =>
    intro hi
    have hlt : i < own.length := by omega
    refine Ev.step (fun k => ?_) (ih (by omega))
    have hl : (own.drop (i + 1)).reverse.length ≤ 60 := by simp; omega
    have e : (own.drop (i + 1)).reverse ++ [own.getD i 0] = (own.drop i).reverse := by rw [drop_cons (z := 0) hlt, List.reverse_cons]
    have w1 : ((i + 1 : Nat) : Int) - 1 = (i : Int) := by omega
    have w2 : wrap64 ((i : Int) - 1) = (i : Int) - 1 := by unfold wrap64; omega
    rw [turndownlaw08_RoomsTurned.l1, w1, if_pos (by omega), if_pos (by omega), if_pos (by omega), if_pos (by omega), rdI, e, w2]
theorem turned_l0 {own : List Int} {b : List S47} {kk : Int} (hn : own.length ≤ 60) (hlen : b.length ≤ 40) (hg : A.Good b own) (hk : 1 ≤ kk ∧ kk ≤ 9) {R : Nat → Option Bool}
    (h : ∀ k, R k = turndownlaw08_RoomsTurned.l1 k own (b.map prm) kk ((b.map prm).map (flipB own.length)) ((b.map prm).map (dearB kk)) [] (wrap64 ((own.length : Int) - 1))) (hR : Ev R true) :
    ∀ d i, i + d = b.length → Ev (fun k => turndownlaw08_RoomsTurned.l0 k own (tb b i) kk ((b.take i).map (fun x => flipB own.length (prm x))) ((b.take i).map (fun x => dearB kk (prm x))) (i : Int)) true := by
  intro d
  induction d with
  | zero =>
    intro i hi
    obtain rfl : i = b.length := by omega
    refine Ev.step (fun k => ?_) hR
    rw [turndownlaw08_RoomsTurned.l0, if_neg (by rw [tb_len]; omega), tb_end, h, List.take_of_length_le (Nat.le_refl _), List.map_map, List.map_map]
    rfl
  | succ d ih =>
    intro i hi
    have hlt : i < b.length := by omega
    refine Ev.step (fun k => ?_) (ih (i + 1) (by omega))
    obtain ⟨x, hx⟩ : ∃ x, b.getD i z47 = x := ⟨_, rfl⟩
    have hxm : x ∈ b := by rw [← hx]; exact mem_getD hlt
    have hf := hg.from_ x hxm
    have hp := prm_ok x
    have e1 : rd_T47 (tb b i) (i : Int) = x := by rw [rdT47, tb_at hlt, hx]
    have e2 : (tb b i).set (i : Int).toNat (⟨x.f0, x.f1, (prm x).f2⟩ : S47) = tb b (i + 1) := by rw [Int.toNat_natCast, ← tb_set hlt, hx]; rfl
    have e3 : rd_T47 (tb b (i + 1)) (i : Int) = prm x := by rw [rdT47, tb_at' hlt, hx]
    have l1 : ((b.take i).map (fun x => flipB own.length (prm x))).length ≤ 40 := by simp; omega
    have l2 : ((b.take i).map (fun x => dearB kk (prm x))).length ≤ 40 := by simp; omega
    have w1 : wrap64 ((own.length : Int) - (prm x).f1) = (own.length : Int) - (prm x).f1 := by unfold wrap64; simp only [prm]; omega
    have w2 : wrap64 ((own.length : Int) - (prm x).f0) = (own.length : Int) - (prm x).f0 := by unfold wrap64; simp only [prm]; omega
    have w3 : wrap64 (kk * (prm x).f2) = kk * (prm x).f2 := by
      have h1 : 0 ≤ kk * (prm x).f2 := Int.mul_nonneg (by omega) hp.1
      have h2 : kk * (prm x).f2 ≤ 9 * 100000 := Int.mul_le_mul (by omega) hp.2.1 hp.1 (by omega)
      unfold wrap64; omega
    rw [turndownlaw08_RoomsTurned.l0, if_pos (by rw [tb_len]; omega), if_pos (by omega), e1, hp.2.2, Option.bind_some, e2, Option.bind_some, if_pos (by omega), if_pos (by omega), e3, w1, w2, w3, wrap_succ hlt (by omega)]
    have f1 := take_snoc (fun x => flipB own.length (prm x)) z47 hlt
    have f2 := take_snoc (fun x => dearB kk (prm x)) z47 hlt
    rw [hx] at f1 f2
    rw [← f1, ← f2]
    rfl
open Classical in
theorem turned_pure (l : List S47) (r : List Int) (y : Int) : ∃ k, turndownlaw08_RoomsTurned.f k l r y = some true := by
  refine Ev.rounds ?_
  obtain ⟨own, ho, hok⟩ := tamed_ev r
  obtain ⟨hn1, hn2⟩ := hok.nights
  obtain ⟨b, hb⟩ : ∃ b, b = (l.take 15).map (tame1 (own.length : Int)) := ⟨_, rfl⟩
  have hg : A.Good b own := by rw [hb]; exact good_tame hok l (by omega)
  have hgp := good_prm hg
  have ht : turndownlaw08_tame.f l (own.length : Int) 15 = some b := by unfold turndownlaw08_tame.f; rw [if_pos (by omega), hb]; rfl
  have hm := modV_bd (x := y) (n := 9) (by omega) (by omega)
  obtain ⟨kk, hkk⟩ : ∃ kk, 1 + modV y 9 = kk := ⟨_, rfl⟩
  have hk : 1 ≤ kk ∧ kk ≤ 9 := by omega
  have hbl := hg.many
  obtain ⟨tk, pr, n, hacc, hright, hrev, hopt, hn0, hnm, htk⟩ := accept_ev hgp
  have gback : A.Good ((b.map prm).map (flipB own.length)) own.reverse := good_flip hgp
  have gdear : A.Good ((b.map prm).map (dearB kk)) own := good_dearB hgp (by omega) (fun x hx => by
    obtain ⟨z, _, rfl⟩ := List.mem_map.1 hx
    have hp := prm_ok z
    have : kk * (prm z).f2 ≤ 9 * 100000 := Int.mul_le_mul (by omega) hp.2.1 hp.1 (by omega)
    omega)
  have gonly : A.Good (pickL (b.map prm) tk) own := good_pick hgp hright.asc
  obtain ⟨v1, e1, o1, _⟩ := revenue_ev gback
  obtain ⟨v2, e2, o2, _⟩ := revenue_ev gonly
  obtain ⟨v3, e3, o3, _⟩ := revenue_ev gdear
  obtain rfl : v1 = n := (mirror_of hgp).opt (inst_ok hgp) (inst_ok gback) hopt o1
  obtain rfl : v2 = v1 := only_opt hright.asc hright.fit (inst_ok gonly) hrev o2
  have h3 : v3 = kk * v2 := (scaled_of (l := b.map prm) (r := own) kk).opt (by omega) (inst_ok hgp) (inst_ok gdear) hopt o3
  have hw : wrap64 (kk * v2) = v3 := by
    rw [h3]
    have h1 : 0 ≤ kk * v2 := Int.mul_nonneg (by omega) hn0
    have h2 : kk * v2 ≤ 9 * 40000000 := Int.mul_le_mul (by omega) hnm hn0 (by omega)
    unfold wrap64; omega
  have L2 := turned_l2 (pr := pr) (by rw [List.length_map]; omega) hright.asc htk e1 e2 e3 hw tk.length 0 (by omega)
  have hfits := fits_ev hgp (tk := tk) (by omega)
  have hfp : FitsP (b.map prm) own tk := ⟨hright.asc, hright.fit⟩
  have J2 : Ev (fun k => turndownlaw08_RoomsTurned.j2 k own (b.map prm) kk ((b.map prm).map (flipB own.length)) ((b.map prm).map (dearB kk)) own.reverse v2 false tk pr) true := by
    refine Ev.step (fun k => ?_) L2
    rw [turndownlaw08_RoomsTurned.j2]
    rfl
  have R1 : Ev (fun k => (rooms_Accept.f k (b.map prm) own).bind fun bt299 => (if bt299.2.2.2 = 0 then ((turndownref08_Fits.f k (b.map prm) own bt299.1).bind fun t308 => (turndownlaw08_RoomsTurned.j2 k own (b.map prm) kk ((b.map prm).map (flipB own.length)) ((b.map prm).map (dearB kk)) own.reverse bt299.2.2.1 (!t308) bt299.1 bt299.2.1)) else (turndownlaw08_RoomsTurned.j2 k own (b.map prm) kk ((b.map prm).map (flipB own.length)) ((b.map prm).map (dearB kk)) own.reverse bt299.2.2.1 true bt299.1 bt299.2.1))) true := by
    refine hacc.bind ?_
    simp only [if_pos]
    refine hfits.bind ?_
    rw [decide_eq_true hfp]
    exact J2
  have L1 := turned_l1 (back := (b.map prm).map (flipB own.length)) (dear := (b.map prm).map (dearB kk)) (kk := kk) hn2 (fun k => rfl) R1 own.length (Nat.le_refl _)
  have w1 : wrap64 ((own.length : Int) - 1) = (own.length : Int) - 1 := by unfold wrap64; omega
  have L0 := turned_l0 hn2 (by omega) hg hk (R := fun k => turndownlaw08_RoomsTurned.l1 k own (b.map prm) kk ((b.map prm).map (flipB own.length)) ((b.map prm).map (dearB kk)) [] (wrap64 ((own.length : Int) - 1))) (fun k => rfl)
    (by rw [w1]; simpa using L1) b.length 0 (by omega)
  unfold turndownlaw08_RoomsTurned.f
  refine ho.bind ?_
  simp only [ht, Option.bind_some, hm.2.2]
  have w2 : wrap64 (1 + modV y 9) = kk := by unfold wrap64; omega
  rw [w2]
  exact L0
end Go.Proofs.Ytpjobcnfjpbaeaa.N

namespace Go.Proofs.Ytpjobcnfjpbaeaa.A
open Go.RowKit Go.Proofs.YtpjobcnfjpbaeaaW.PrintWords Go.Proofs.YtpjobcnfjpbaeaaW.PrintLast Go.Proofs.YtpjobcnfjpbaeaaW.PrintMore
open Go.Proofs.Ytpjobcnfjpbaeaa.PA Go.Proofs.Ytpjobcnfjpbaeaa.M
theorem turned_walk (A : Option Addr) (c : Nat) (l : List S47) (A1 : Option Addr) (c1 : Nat) (r : List Int) (y : Int) (w : World) (hr : Kd.C k47 w A l.length l) (hc : l.length ≤ c)
    (_hw : ∀ x ∈ l, (Lit.int .i64 x.f0).wf = true ∧ (Lit.int .i64 x.f1).wf = true ∧ (Lit.int .i64 x.f2).wf = true) (hr1 : Kd.C (Kd.int .i64) w A1 r.length r) (hc1 : r.length ≤ c1) (_hw1 : ∀ x ∈ r, (Lit.int .i64 x).wf = true)
    (_hy : -9223372036854775808 ≤ y ∧ y ≤ 9223372036854775807) :
    Calls Try.prog 7 #[.slice A l.length c, .slice A1 r.length c1, .int .i64 y] w fun e w' => e = .returned (.bool true) ∧ Below w.heap.size w w' := by
  obtain ⟨k, hk⟩ := N.turned_pure l r y
  exact turndownlaw08_RoomsTurned.calls k A c l A1 c1 r y true w hr hc hr1 hc1 hk
end Go.Proofs.Ytpjobcnfjpbaeaa.A

namespace Go.Proofs.Ytpjobcnfjpbaeaa.E
open Go.ChangeShapes Go.WideShapes Go.ChangeAt Go.RowKit Go.Deep
open Go.Proofs.YtpjobcnfjpbaeaaW.PrintWords Go.Proofs.YtpjobcnfjpbaeaaW.PrintLast Go.Proofs.YtpjobcnfjpbaeaaW.PrintMore
open Go.Proofs.Ytpjobcnfjpbaeaa.PA
variable {H : Type} {enc : TypeId × Value → H}
theorem open_int3 {W : World} {fuel : Nat} {cs : List Value} {x : DataW H × List MemPlace} (h : DataW.trod enc Try.prog W 0 (fun _ => true) true fuel 3 cs = some x) : ∃ n, cs = [.int .i64 n] ∧ x = (.lit (.int .i64 n), []) ∧ (Lit.int .i64 n).wf = true :=
  DataW.trod_int Try.underlying3 h
theorem len3 : ∀ {l : List Value}, l.length = 3 → ∃ a b c, l = [a, b, c]
  | [a, b, c], _ => ⟨a, b, c, rfl⟩
  | [], h => by simp at h
  | [_], h => by simp at h
  | [_, _], h => by simp at h
  | _ :: _ :: _ :: _ :: _, h => by simp at h
instance : Inhabited S47 := ⟨z47⟩
theorem open_bks {W : World} {a : Option Addr} {len cap : Nat} {d : DataW H} {p : List MemPlace} (h : DataW.Trod enc Try.prog W 0 (fun _ => true) true 22 (.slice a len cap) d p) :
    ∃ xs : List S47, xs.length = len ∧ len ≤ cap ∧ Kd.C k47 W a len xs ∧ ∀ x ∈ xs, (Lit.int .i64 x.f0).wf = true ∧ (Lit.int .i64 x.f1).wf = true ∧ (Lit.int .i64 x.f2).wf = true := by
  obtain ⟨fuel, hf⟩ := h
  have e3 : Try.prog.cellsOf 47 = 3 := by kernel_rfl
  have e1 : Try.prog.cellsOf 3 = 1 := by kernel_rfl
  rcases open_slice Try.underlying22 hf with ⟨hcs, _⟩ | ⟨x, l, c, m, n, D, Pl, hcs, _, hl, hm, hmm, _, hel⟩
  · simp [Value.cells] at hcs
    obtain ⟨rfl, rfl, rfl⟩ := hcs
    exact ⟨[], rfl, Nat.le_refl _, ⟨rfl, by omega, fun h => by omega⟩, fun x hx => by simp at hx⟩
  · simp [Value.cells] at hcs
    obtain ⟨rfl, rfl, rfl⟩ := hcs
    simp only [if_true] at hmm
    subst hmm
    have key : ∀ i, i < m → ∃ s : S47, (W.cell? (x.add (i * 3)) = some (.int .i64 s.f0) ∧ W.cell? (x.add (i * 3 + 1)) = some (.int .i64 s.f1) ∧ W.cell? (x.add (i * 3 + 2)) = some (.int .i64 s.f2)) ∧ ((Lit.int .i64 s.f0).wf = true ∧ (Lit.int .i64 s.f1).wf = true ∧ (Lit.int .i64 s.f2).wf = true) := by
      intro i hi
      obtain ⟨cs', h1, h2⟩ := hel i hi
      rw [e3] at h1
      obtain ⟨_, hlen, hcell⟩ := World.cells?_some h1
      obtain ⟨y0, y1, y2, q, _, _, g0, g1, g2⟩ := trod_struct3 Try.underlying47 h2
      obtain ⟨c0, c1, c2, rfl⟩ := len3 hlen
      obtain ⟨n0, q0, _, w0⟩ := open_int3 g0
      obtain ⟨n1, q1, _, w1⟩ := open_int3 g1
      obtain ⟨n2, q2, _, w2⟩ := open_int3 g2
      simp [e1] at q0 q1 q2
      subst q0 q1 q2
      refine ⟨⟨n0, n1, n2⟩, ⟨?_, ?_, ?_⟩, w0, w1, w2⟩
      · have := hcell 0 (by omega); rw [Go.Deep.add_add] at this; simpa using this
      · have := hcell 1 (by omega); rw [Go.Deep.add_add] at this; simpa using this
      · have := hcell 2 (by omega); rw [Go.Deep.add_add] at this; simpa using this
    obtain ⟨f, hfs⟩ := choose_lt (α := S47) key
    refine ⟨(List.range len).map f, by simp, hl, ⟨by simp, by unfold maxLen at hm; omega, fun _ => ⟨x, rfl, fun j p hp => ?_⟩⟩, fun s hs => ?_⟩
    · have hj : j < len := by have := (List.getElem?_eq_some_iff.1 hp).1; simpa using this
      simp [hj] at hp
      subst hp
      obtain ⟨⟨a0, a1, a2⟩, _⟩ := hfs j (by omega)
      refine ⟨[.int .i64 (f j).f0, .int .i64 (f j).f1, .int .i64 (f j).f2], rfl, k47_mk W (f j), fun i u hu => ?_⟩
      match i, hu with
      | 0, hu => simp at hu; subst hu; exact a0
      | 1, hu => simp at hu; subst hu; exact a1
      | 2, hu => simp at hu; subst hu; exact a2
      | i + 3, hu => simp at hu
    · simp only [List.mem_map, List.mem_range] at hs
      obtain ⟨i, hi, rfl⟩ := hs
      exact (hfs i (by omega)).2
theorem open_is {W : World} {a : Option Addr} {len cap : Nat} {d : DataW H} {p : List MemPlace} {fuel : Nat} (hf : DataW.trod enc Try.prog W 0 (fun _ => true) true fuel 23 [.slice a len cap] = some (d, p)) :
    ∃ xs : List Int, xs.length = len ∧ len ≤ cap ∧ Kd.C (Kd.int .i64) W a len xs ∧ ∀ x ∈ xs, (Lit.int .i64 x).wf = true := by
  rcases open_ints Try.underlying23 Try.underlying3 (by kernel_rfl) hf with ⟨hcs, _⟩ | ⟨x, l, c, zs, hcs, _, hl, hm, hz, _, hcell, hwz⟩
  · simp at hcs
    obtain ⟨rfl, rfl, rfl⟩ := hcs
    exact ⟨[], rfl, Nat.le_refl _, ⟨rfl, by omega, fun h => by omega⟩, fun x hx => by simp at hx⟩
  · simp at hcs
    obtain ⟨rfl, rfl, rfl⟩ := hcs
    simp only [if_true] at hz
    refine ⟨zs.take len, by rw [List.length_take]; omega, hl, ⟨by rw [List.length_take]; omega, by unfold maxLen at hm; omega, fun _ => ⟨x, rfl, fun j p hp => ?_⟩⟩, fun s hs => hwz s (List.mem_of_mem_take hs)⟩
    have hj : j < len := by have := (List.getElem?_eq_some_iff.1 hp).1; rw [List.length_take] at this; omega
    rw [List.getElem?_take_of_lt hj] at hp
    have h1 := hcell j (by omega)
    rw [List.getD_eq_getElem?_getD, hp] at h1
    refine ⟨[.int .i64 p], rfl, rfl, fun i u hu => ?_⟩
    match i, hu with
    | 0, hu => simp at hu; subst hu; show W.cell? (x.add (j * 1 + 0)) = _; rw [Nat.mul_one, Nat.add_zero]; simpa using h1
    | i + 1, hu => simp at hu
end Go.Proofs.Ytpjobcnfjpbaeaa.E

namespace Go.Proofs.Ytpjobcnfjpbaeaa.E
open Go.ChangeShapes Go.WideShapes Go.ChangeAt Go.RowKit Go.Deep
open Go.Proofs.YtpjobcnfjpbaeaaW.PrintWords Go.Proofs.YtpjobcnfjpbaeaaW.PrintLast Go.Proofs.YtpjobcnfjpbaeaaW.PrintMore
open Go.Proofs.Ytpjobcnfjpbaeaa.PA
variable {H : Type} {enc : TypeId × Value → H}
theorem own : ownKnob Try.prog.godebug = none := by kernel_rfl
theorem laidOut : laidOutB Try.prog = true := by kernel_rfl
theorem wf64 {x : Int} (h : (Lit.int .i64 x).wf = true) : -9223372036854775808 ≤ x ∧ x ≤ 9223372036854775807 := bounds_i64 h
end Go.Proofs.Ytpjobcnfjpbaeaa.E

namespace Go.Proofs.Ytpjobcnfjpbaeaa.roomsTurned
open Go.ChangeShapes Go.WideShapes Go.ChangeAt Go.RowKit
open Go.Proofs.Ytpjobcnfjpbaeaa.E
set_option maxRecDepth 100000 in
theorem lifted (os : Os) (started : os.Started) (H : Type) (enc : TypeId × Value → H) :
    ReturnsInHanded {} Try.checked os 7 .any (Rows.roomsTurnedSpec.pre6 enc Try.prog Try.f7 Rows.roomsTurnedRow.domain false) (Rows.roomsTurnedSpec.post enc Try.prog Try.f7 false true false false) := by
  refine returnsInHanded_of_change_sized (C := Try.checked) own started (by kernel_rfl) Try.func7
    (ChangeSpec.witness6 (enc := enc) (C := Try.checked) false ⟨#[], #[.slice none 0 0, .slice none 0 0, .int .i64 0], []⟩ 8 (by kernel_rfl) (by kernel_rfl) (by kernel_rfl) (by kernel_rfl)) ?_
  intro W base args ds gs before hval0 hW hcnd hsz0 _
  have hval : ∀ (j : Nat) t v, Try.f7.params[j]? = some t → args[j]? = some v → Value.okWide Try.prog W .any base t v := hval0
  have hW' := hW
  obtain ⟨p, q, hA0, hV, rfl, hfz, hnd⟩ := hW
  have hA : DataW.TrodAll enc Try.prog W 0 (fun _ => true) true Try.f7.params.toList args.toList ds p := hA0
  rw [Try.params7] at hA hval
  obtain ⟨v0, vs0, d0, ds0, p0, q0, hargs, rfl, rfl, h0, r0⟩ := trodAll_cons hA
  obtain ⟨v1, vs1, d1, ds1, p1, q1, rfl, rfl, rfl, h1, r1⟩ := trodAll_cons r0
  obtain ⟨v2, vs2, d2, ds2, p2, q2, rfl, rfl, rfl, h2, r2⟩ := trodAll_cons r1
  obtain ⟨rfl, rfl, rfl⟩ := trodAll_nil r2
  obtain rfl : args = #[v0, v1, v2] := by cases args; simp_all
  obtain ⟨rfl, rfl⟩ := trodVars_none hV
  have k0 := h0
  have lt0 : ∀ x ∈ p0, x.block < W.heap.size := by obtain ⟨m, hm⟩ := k0; exact DataW.trod_lt m _ _ _ hm
  obtain ⟨a0, len0, cap0, rfl⟩ := okWide_slice Try.underlying22 (hval 0 22 v0 rfl rfl)
  obtain ⟨x0, rfl, y0, z0, w0⟩ := open_bks h0
  have k1 := h1
  have lt1 : ∀ x ∈ p1, x.block < W.heap.size := by obtain ⟨m, hm⟩ := k1; exact DataW.trod_lt m _ _ _ hm
  obtain ⟨a1, len1, cap1, rfl⟩ := okWide_slice Try.underlying23 (hval 1 23 v1 rfl rfl)
  obtain ⟨x1, rfl, y1, z1, w1⟩ : ∃ xs : List Int, xs.length = len1 ∧ len1 ≤ cap1 ∧ Go.Proofs.YtpjobcnfjpbaeaaW.PrintWords.Kd.C (Go.Proofs.YtpjobcnfjpbaeaaW.PrintWords.Kd.int .i64) W a1 len1 xs ∧ ∀ x ∈ xs, (Lit.int .i64 x).wf = true := by obtain ⟨fuel, hf⟩ := h1; exact open_is hf
  obtain ⟨a2, rfl, rfl, rfl, w2⟩ := open_int Try.underlying3 (hval 2 3 v2 rfl rfl) h2
  clear hA0 hval0 hsz0
  refine (Go.Proofs.Ytpjobcnfjpbaeaa.A.turned_walk a0 cap0 x0 a1 cap1 x1 a2 W z0 y0 w0 z1 y1 w1 (wf64 w2)).mono fun e W' ⟨he, bel⟩ => ?_
  subst he
  exact ⟨_, rfl, _, _, _, [], _, [], hW', trodAll_mk1 (shut_bool Try.underlying4 _), (trodAll_cons_mk (Below.trod laidOut (by kernel_rfl) (of_decide_eq_true (by kernel_rfl)) k0 bel lt0) (trodAll_cons_mk (Below.trod laidOut (by kernel_rfl) (of_decide_eq_true (by kernel_rfl)) k1 bel lt1) (trodAll_cons_mk (shut_int Try.underlying3 w2) trodAll_mk0))), rfl, bel.frame _, fun h => by cases h⟩
theorem over : Rows.roomsTurnedRow.holds Try.pinned (OpenSpec.ofChange Rows.roomsTurnedSpec) :=
  OpenClaim.holds_of_wide 7 Try.f7 rfl rfl rfl rfl rfl rfl rfl ⟨rfl, rfl, rfl, rfl, rfl⟩ rfl rfl rfl rfl rfl (by kernel_rfl) Try.func7 (by kernel_rfl)
    (of_decide_eq_true (by kernel_rfl)) (by unfold Func.isWrapper; first | (rw [if_pos (by decide +kernel)]; kernel_rfl) | (rw [if_neg (by decide +kernel)]; exact ⟨rfl, rfl⟩))
    (fun os started H enc _ => lifted os started H enc)
theorem proved : Rows.RoomsTurnedSaid := over
end Go.Proofs.Ytpjobcnfjpbaeaa.roomsTurned
namespace Go.Proofs.Ytpjobcnfjpbaeaa
theorem roomsTurned_holds : Rows.RoomsTurnedSaid := roomsTurned.proved
end Go.Proofs.Ytpjobcnfjpbaeaa
