/- RoomsWorth: quotes and further bookings -/
import Derived.Deep.RegionHeld3
import Derived.Deep.DeepCutAuto
import Derived.StillTactics
import Derived.Test.YtpjobcnfjpbaeaaRows
import Derived.WalkKit
import Derived.ProofKit
import Derived.OpenShut
import Derived.ShutString
import Derived.ChangeOld
import Derived.Below
import Derived.SizedLaws
import Derived.Deep.Slices
import Derived.Deep.Strs
import Derived.Lib.SmallJoins
import Derived.Test.YtpjobcnfjpbaeaaZe4
set_option linter.unusedSimpArgs false
set_option linter.unusedVariables false

namespace Go.Proofs.Ytpjobcnfjpbaeaa.A
open Go.RowKit Go.Proofs.YtpjobcnfjpbaeaaW.PrintWords Go.Proofs.YtpjobcnfjpbaeaaW.PrintLast Go.Proofs.YtpjobcnfjpbaeaaW.PrintMore
open Go.Proofs.Ytpjobcnfjpbaeaa.PA Go.Proofs.Ytpjobcnfjpbaeaa.M
theorem wrapI {x : Int} (h : -4611686018427387904 ≤ x ∧ x ≤ 4611686018427387904) : wrap64 x = x := by unfold wrap64; omega
def modV (x n : Int) : Int := wrap64 (Int.tmod (IntKind.u64.wrap x) (IntKind.u64.wrap n))
theorem modV_bd {x n : Int} (h1 : 1 ≤ n) (h2 : n ≤ 10000000) : 0 ≤ modV x n ∧ modV x n < n ∧ turndownlaw08_mod.f x n = some (modV x n) := by
  have e : IntKind.u64.wrap n = n := IntWalk.u64_in n (by omega)
  have e2 : IntKind.u64.wrap x = x % 18446744073709551616 := IntKind.wrap_u64 x
  have h0 : 0 ≤ x % 18446744073709551616 := Int.emod_nonneg _ (by omega)
  have h3 : Int.tmod (x % 18446744073709551616) n = (x % 18446744073709551616) % n := Int.tmod_eq_emod_of_nonneg h0
  have h4 : 0 ≤ (x % 18446744073709551616) % n := Int.emod_nonneg _ (by omega)
  have h5 : (x % 18446744073709551616) % n < n := Int.emod_lt_of_pos _ (by omega)
  have h6 : modV x n = (x % 18446744073709551616) % n := by
    unfold modV
    rw [e, e2, h3]
    exact wrapI (by omega)
  refine ⟨by omega, by omega, ?_⟩
  unfold turndownlaw08_mod.f
  rw [e, if_neg (by omega)]
  unfold modV
  rw [e]
theorem mod_c (x n : Int) (w : World) (h1 : 1 ≤ n) (h2 : n ≤ 10000000) : Calls Try.prog 26 #[.int .i64 x, .int .i64 n] w fun e w' => e = .returned (.int .i64 (modV x n)) ∧ ∃ q, w' = w.drewN q :=
  (turndownlaw08_mod.calls x n _ w (modV_bd h1 h2).2.2).mono fun _ _ h => ⟨h.1, h.2.out⟩
def tameF (x : S47) (n : Int) : Int := if x.f0 < 0 ∨ n < x.f1 ∨ x.f1 ≤ x.f0 then modV x.f0 n else x.f0
def tameT (x : S47) (n : Int) : Int := if x.f0 < 0 ∨ n < x.f1 ∨ x.f1 ≤ x.f0 then modV x.f0 n + 1 + modV x.f1 (n - modV x.f0 n) else x.f1
def tameP (x : S47) : Int := if x.f2 < 0 ∨ 1000000 < x.f2 then modV x.f2 1000001 else x.f2
def tame1 (n : Int) (x : S47) : S47 := ⟨tameF x n, tameT x n, tameP x⟩
theorem tame1_ok {n : Int} (h1 : 1 ≤ n) (h2 : n ≤ 1000) (x : S47) : 0 ≤ (tame1 n x).f0 ∧ (tame1 n x).f0 < (tame1 n x).f1 ∧ (tame1 n x).f1 ≤ n ∧ 0 ≤ (tame1 n x).f2 ∧ (tame1 n x).f2 ≤ 1000000 := by
  have a := modV_bd (x := x.f0) h1 (by omega)
  have b := modV_bd (x := x.f1) (n := n - modV x.f0 n) (by omega) (by omega)
  have c := modV_bd (x := x.f2) (n := 1000001) (by omega) (by omega)
  have a1 := a.1
  have a2 := a.2.1
  have b1 := b.1
  have b2 := b.2.1
  have c1 := c.1
  have c2 := c.2.1
  simp only [tame1, tameF, tameT, tameP]
  clear a b c
  split <;> split <;> omega
set_option maxRecDepth 100000 in
set_option maxHeartbeats 6400000 in
theorem tame_c (A : Option Addr) (c : Nat) (l : List S47) (n most : Nat) (w : World) (hr : Kd.C k47 w A l.length l) (hc : l.length ≤ c) (hn : 1 ≤ n ∧ n ≤ 1000) (hm : most ≤ 1000) :
    Calls Try.prog 24 #[.slice A l.length c, .int .i64 (n : Int), .int .i64 (most : Int)] w fun e w' => ∃ v, e = .returned v ∧ Kd.R k47 47 w' w.heap.size (fun _ => True) v ((l.take most).map (tame1 n)) ∧ Below w.heap.size w w' := by
  have hl : l.length ≤ 9223372036854775807 := hr.2.1
  have HR := Lib.hid hr
  obtain ⟨hn1, hn2⟩ := hn
  obtain ⟨M, hM⟩ : ∃ M, M = l.map (tame1 n) := ⟨_, rfl⟩
  have hfin : (l.take most).map (tame1 n) = M.take most := by rw [hM, List.map_take]
  rw [hfin]
  have hML : M.length = l.length := by rw [hM, List.length_map]
  have HM := Lib.hid hM
  have HML := Lib.hid hML
  clear hr hM hfin hML
  go_enter Try.func24, Try.ntmps24
  go_wp2_with fail
  go_loopw [7, 8] (fun v7 v8 wr => ∃ (q : Nat), v8 = .int .i64 (q : Int) ∧ q ≤ l.length ∧ q ≤ most ∧ Hid (Kd.R k47 47 wr w.heap.size (fun _ => True) v7 (M.take q)) ∧ Below w.heap.size w wr) (fun _ v8 _ => most - (intOf v8).toNat)
  case atStart => exact ⟨0, rfl, Nat.zero_le _, Nat.zero_le _, Kd.R_nil _ _ _ _ _, Below.refl _ _⟩
  case round =>
    obtain ⟨q, rfl, hq, hqm, HO, hB⟩ := hrel
    by_cases hlt : q < l.length
    · by_cases hlm : q < most
      · have hlt' : (q : Int) < l.length := by omega
        have hlm' : (q : Int) < most := by omega
        obtain ⟨ad, x, eA, HX, x0, x1, x2⟩ := at_bk HR.out hB q hlt
        cases eA
        have hnext : M.take (q + 1) = M.take q ++ [tame1 n x] := by
          rw [List.take_add_one, HM.out, List.getElem?_map, HX.out]; simp
        have hlen : (M.take q).length = q := by rw [List.length_take, HML.out]; omega
        obtain ⟨f, t, p⟩ := x
        simp only at x0 x1 x2
        have HNX := Lib.hid hnext
        have HLEN := Lib.hid hlen
        have hsw := hB.size
        obtain ⟨W0, hW0⟩ : ∃ W0, W0 = wr.alloc (Obj.cells #[Value.int .i64 f, Value.int .i64 t, Value.int .i64 p] 47) := ⟨_, rfl⟩
        have hBW0 : Below wr.heap.size wr W0 := by rw [hW0]; exact (Below.refl _ _).alloc (Nat.le_refl _) _
        have hg0 : W0.heap[wr.heap.size]? = some (.cells #[Value.int .i64 f, Value.int .i64 t, Value.int .i64 p] 47 (0, 0)) := by rw [hW0]; exact heap_alloc_new _ _
        have hs0 : W0.heap.size = wr.heap.size + 1 := by rw [hW0]; simp
        have HW0 := Lib.hid hW0
        have HBW0 := Lib.hid hBW0
        have HG0 := Lib.hid hg0
        clear hnext hlen hW0 hBW0 hg0
        by_cases k1 : f < 0
        · have ha := modV_bd (x := f) (n := n) (by omega) (by omega)
          have ha1 := ha.1
          have ha2 := ha.2.1
          have hb0 := modV_bd (x := t) (n := (n : Int) - modV f n) (by omega) (by omega)
          have hb1 := hb0.1
          have hb2 := hb0.2.1
          have HMF := Lib.hid (fun w => mod_c f n w (by omega) (by omega))
          have HMT := Lib.hid (fun w => mod_c t ((n : Int) - modV f n) w (by omega) (by omega))
          obtain ⟨mf, hmf⟩ : ∃ mf, mf = modV f n := ⟨_, rfl⟩
          rw [← hmf] at HMF HMT ha1 ha2 hb0 hb1 hb2
          obtain ⟨mt, hmt⟩ : ∃ mt, mt = modV t ((n : Int) - mf) := ⟨_, rfl⟩
          rw [← hmt] at HMT hb1 hb2
          have HMFE := Lib.hid hmf
          have HMTE := Lib.hid hmt
          clear ha hb0 hmf hmt
          go_wp2_with fail
          rw [← HW0.out]
          refine (HMF.out _).mono ?_
          rintro e w3 ⟨rfl, n3, rfl⟩
          have z00 : W0.cell? ⟨wr.heap.size, 0, none⟩ = some (.int .i64 (f)) := by simp [World.cell?, HG0.out]
          have z10 : W0.cell? ⟨wr.heap.size, 1, none⟩ = some (.int .i64 (t)) := by simp [World.cell?, HG0.out]
          have z20 : W0.cell? ⟨wr.heap.size, 2, none⟩ = some (.int .i64 (p)) := by simp [World.cell?, HG0.out]
          have zf0 : ∀ k, W0.frozen? ⟨wr.heap.size, k, none⟩ = false := fun k => by simp [World.frozen?, HG0.out]
          obtain ⟨W1, hW1⟩ : ∃ W1, W1 = (W0.drewN n3).setCell ⟨wr.heap.size, 0, none⟩ (.int .i64 mf) := ⟨_, rfl⟩
          have HG1 : Hid (W1.heap[wr.heap.size]? = some (.cells #[Value.int .i64 mf, Value.int .i64 t, Value.int .i64 p] 47 (0, 0))) := Lib.hid (by rw [hW1]; have := HG0.out; simp [World.setCell, Array.getElem?_modify, World.drewN, this])
          have HB1 : Hid (Below wr.heap.size wr W1) := Lib.hid (by rw [hW1]; exact (HBW0.out.trans ((pw_below_drewN (Below.refl _ _) n3).mono (by show wr.heap.size ≤ W0.heap.size; omega))).setCell (p := ⟨wr.heap.size, 0, none⟩) (Nat.le_refl _) _)
          have hs1 : W1.heap.size = wr.heap.size + 1 := by rw [hW1]; simp [World.setCell, World.drewN, hs0]
          have HW1 := Lib.hid hW1
          clear hW1
          go_wp2_with fail
          rw [← HW1.out]
          clear z00 z10 z20 zf0
          have CE : Hid (∀ w', R.Keeps [] W1 w' → w'.cell? ⟨wr.heap.size, 0, none⟩ = some (.int .i64 mf) ∧ w'.cell? ⟨wr.heap.size, 1, none⟩ = some (.int .i64 t)) := Lib.hid (fun w' h =>
            ⟨h.cell (a := ⟨wr.heap.size, 0, none⟩) (by simp [World.cell?, HG1.out]) (by simp), h.cell (a := ⟨wr.heap.size, 1, none⟩) (by simp [World.cell?, HG1.out]) (by simp)⟩)
          have hk1 : mf ≤ 1000 := by omega
          have hk2 : mt ≤ 1000 := by omega
          have hk3 : (n : Int) ≤ 1000 := by omega
          have hi3 : -4611686018427387904 ≤ mf + 1 + mt ∧ mf + 1 + mt ≤ 4611686018427387904 := by omega
          have hi2 : -4611686018427387904 ≤ (n : Int) - mf ∧ (n : Int) - mf ≤ 4611686018427387904 := by omega
          have hi1 : -4611686018427387904 ≤ mf + 1 ∧ mf + 1 ≤ 4611686018427387904 := by omega
          have e1 : IntKind.i64.wrap (mf + 1) = mf + 1 := by rw [i64_w]; exact wrapI hi1
          have e2 : IntKind.i64.wrap ((n : Int) - mf) = (n : Int) - mf := by rw [i64_w]; exact wrapI hi2
          have e3 : IntKind.i64.wrap (mf + 1 + mt) = mf + 1 + mt := by rw [i64_w]; exact wrapI hi3
          clear hi1 hi2 hi3
          apply R.wp_region_text [0, 1, 2, 3, 4, 5, 6, 7, 8] [9, 10, 11, 12] 12 (R.Keeps [] W1)
          case hm => kernel_rfl
          case hB => kernel_rfl
          case hd => rfl
          case hQ => exact fun _ _ _ _ _ h => h
          case hS => exact (R.Keeps.refl _ _).drew
          case hF =>
            intro w' hS
            obtain ⟨c1, c2⟩ := CE.out w' hS
            have HS := Lib.hid hS
            clear hS
            simp only [R.pickC, List.filterMap_cons, List.getElem?_toArray, List.getElem?_cons_zero, List.getElem?_cons_succ, List.filterMap_nil]
            iterate 9 ((with_reducible refine R.wpStill_plain rfl (fun K hK => ?_)); go_simp; with_reducible refine hK _ ?_; clear hK K)
            exact wpStill_nil rfl
          case hC =>
            simp only [R.chainOf, List.getElem?_toArray, List.getElem?_cons_zero, List.getElem?_cons_succ, Nat.reduceBNe, Bool.and_true, Bool.and_false, Bool.false_and]
            refine R.wpSeq_same (fun K hK => ?_)
            go_simp
            refine (HMT.out _).mono ?_
            rintro e w4 ⟨rfl, n4, rfl⟩
            have hk4 : R.Keeps [] W1 (W1.drewN (1 + n4)) := R.Keeps.of_below [] (pw_below_drewN (Below.refl _ _) (1 + n4))
            refine hK _ _ (((R.Keeps.refl _ _).drew).below (pw_below_drewN (Below.refl _ _) n4)) ?_
            clear hK K
            refine R.wpSeq_same (fun K hK => ?_)
            go_simp
            with_reducible refine hK _ _ hk4 ?_
            clear hK K
            refine R.wpSeq_same (fun K hK => ?_)
            go_simp
            with_reducible refine hK _ _ hk4 ?_
            clear hK K
            clear e1 e2 e3
            refine R.wpSeq_tail _ rfl ?_
            simp only [List.map_cons, List.map_nil]
            have HG4 : Hid ((W1.drewN (1 + n4)).heap[wr.heap.size]? = some (.cells #[Value.int .i64 mf, Value.int .i64 t, Value.int .i64 p] 47 (0, 0))) := Lib.hid (by have := HG1.out; simpa [World.drewN, World.drew] using this)
            have HK4 := Lib.hid hk4
            clear hk4
            have z04 : (W1.drewN (1 + n4)).cell? ⟨wr.heap.size, 0, none⟩ = some (.int .i64 (mf)) := by simp [World.cell?, HG1.out]
            have z14 : (W1.drewN (1 + n4)).cell? ⟨wr.heap.size, 1, none⟩ = some (.int .i64 (t)) := by simp [World.cell?, HG1.out]
            have z24 : (W1.drewN (1 + n4)).cell? ⟨wr.heap.size, 2, none⟩ = some (.int .i64 (p)) := by simp [World.cell?, HG1.out]
            have zf4 : ∀ k, (W1.drewN (1 + n4)).frozen? ⟨wr.heap.size, k, none⟩ = false := fun k => by simp [World.frozen?, HG1.out]
            obtain ⟨W2, hW2⟩ : ∃ W2, W2 = (W1.drewN (1 + n4)).setCell ⟨wr.heap.size, 1, none⟩ (.int .i64 (mf + 1 + mt)) := ⟨_, rfl⟩
            have HG2 : Hid (W2.heap[wr.heap.size]? = some (.cells #[Value.int .i64 mf, Value.int .i64 (mf + 1 + mt), Value.int .i64 p] 47 (0, 0))) := Lib.hid (by rw [hW2]; have := HG1.out; simp [World.setCell, Array.getElem?_modify, this])
            have HB2 : Hid (Below wr.heap.size wr W2) := Lib.hid (by rw [hW2]; exact (HB1.out.trans (HK4.out.to_below (by omega) (fun k hk => by simp at hk))).setCell (p := ⟨wr.heap.size, 1, none⟩) (Nat.le_refl _) _)
            have hs2 : W2.heap.size = wr.heap.size + 1 := by rw [hW2]; simpa [World.setCell, World.drewN, World.drew] using hs1
            have HW2 := Lib.hid hW2
            clear hW2
            go_upto_region 9 with fail
            rw [← HW2.out]
            clear z04 z14 z24 zf4
            have hft : tameF ⟨f, t, p⟩ n = mf := by unfold tameF; rw [if_pos (Or.inl k1)]; exact HMFE.out.symm
            have htt : tameT ⟨f, t, p⟩ n = mf + 1 + mt := by unfold tameT; rw [if_pos (Or.inl k1), ← HMFE.out, ← HMTE.out]
            have HFT := Lib.hid hft
            have HTT := Lib.hid htt
            clear hft htt
            by_cases k5 : p < 0
            · have hp0 := modV_bd (x := p) (n := 1000001) (by omega) (by omega)
              have hpp : tameP ⟨f, t, p⟩ = modV p 1000001 := by unfold tameP; rw [if_pos (Or.inl k5)]
              have HPP := Lib.hid hpp
              have HMP := Lib.hid (fun w => mod_c p 1000001 w (by omega) (by omega))
              clear hp0 hpp
              have z02 : W2.cell? ⟨wr.heap.size, 0, none⟩ = some (.int .i64 (mf)) := by simp [World.cell?, HG2.out]
              have z12 : W2.cell? ⟨wr.heap.size, 1, none⟩ = some (.int .i64 (mf + 1 + mt)) := by simp [World.cell?, HG2.out]
              have z22 : W2.cell? ⟨wr.heap.size, 2, none⟩ = some (.int .i64 (p)) := by simp [World.cell?, HG2.out]
              have zf2 : ∀ k, W2.frozen? ⟨wr.heap.size, k, none⟩ = false := fun k => by simp [World.frozen?, HG2.out]
              go_wp2_with fail
              refine (HMP.out _).mono ?_
              rintro e w5 ⟨rfl, n5, rfl⟩
              go_upto_region 11 with fail
              obtain ⟨W3, hW3⟩ : ∃ W3, W3 = (W2.drewN n5).setCell ⟨wr.heap.size, 2, none⟩ (.int .i64 (modV p 1000001)) := ⟨_, rfl⟩
              rw [← hW3]
              have HG3 : Hid (W3.heap[wr.heap.size]? = some (.cells #[Value.int .i64 (mf), Value.int .i64 (mf + 1 + mt), Value.int .i64 (modV p 1000001)] 47 (0, 0))) := Lib.hid (by rw [hW3]; have := HG2.out; simp [World.setCell, Array.getElem?_modify, this])
              have HB3 : Hid (Below wr.heap.size wr W3) := Lib.hid (by rw [hW3]; exact (HB2.out.trans ((pw_below_drewN (Below.refl _ _) n5).mono (by show wr.heap.size ≤ W2.heap.size; omega))).setCell (p := ⟨wr.heap.size, 2, none⟩) (Nat.le_refl _) _)
              clear z02 z12 z22 zf2
              clear hW3
              have z03 : W3.cell? ⟨wr.heap.size, 0, none⟩ = some (.int .i64 (mf)) := by simp [World.cell?, HG3.out]
              have z13 : W3.cell? ⟨wr.heap.size, 1, none⟩ = some (.int .i64 (mf + 1 + mt)) := by simp [World.cell?, HG3.out]
              have z23 : W3.cell? ⟨wr.heap.size, 2, none⟩ = some (.int .i64 (modV p 1000001)) := by simp [World.cell?, HG3.out]
              have zf3 : ∀ k, W3.frozen? ⟨wr.heap.size, k, none⟩ = false := fun k => by simp [World.frozen?, HG3.out]
              have hy : tame1 (n : Int) ⟨f, t, p⟩ = ⟨mf, mf + 1 + mt, modV p 1000001⟩ := by
                show (⟨tameF ⟨f, t, p⟩ n, tameT ⟨f, t, p⟩ n, tameP ⟨f, t, p⟩⟩ : S47) = _
                rw [HFT.out, HTT.out, HPP.out]
              have HY := Lib.hid hy
              have hsW := HB3.out.size
              have hOW := Lib.hid (Kd.R_below HO.out HB3.out)
              clear hy
              try clear hs0
              try clear hs1
              try clear hs2
              go_wp2_with (at_builtin; refine Kd.R_append k47 (w0 := w) w.heap.size rfl (.tmp 70) (.tmp 72) 22 47 (.agg #[(.int .i64 0), (.int .i64 0), (.int .i64 0)]) 24 rfl Try.underlying22 info47 rfl (by decide) (by omega) u7 (M.take q) (⟨mf, mf + 1 + mt, modV p 1000001⟩ : S47) [.int .i64 (mf), .int .i64 (mf + 1 + mt), .int .i64 (modV p 1000001)] (fun _ => True) (fun _ => False) rfl rfl ?aP (fun _ hk => hk.elim) (fun _ _ => trivial) ?aO ?aB ?aS ?aL ?_)
              case aP => exact k47_mkM _ _ _ (⟨mf, mf + 1 + mt, modV p 1000001⟩ : S47)
              case aO => exact hOW.out
              case aB => exact hB.trans (HB3.out.mono (by omega))
              case aS => omega
              case aL => have h9 := HLEN.out; (try simp only [List.length_take] at h9 ⊢); omega
              intro v1 w9 ho hb hg hat
              have HO9 := Lib.hid ho
              clear ho hg hat
              clear z03 z13 z23 zf3
              go_wp2_with fail
              go_roundw
              case rel => exact ⟨q + 1, by go_num, by omega, by omega, (by rw [HNX.out, HY.out]; exact HO9.out), hb⟩
              case measure => simp [intOf]; omega
            · by_cases k6 : 1000000 < p
              · have hp0 := modV_bd (x := p) (n := 1000001) (by omega) (by omega)
                have hpp : tameP ⟨f, t, p⟩ = modV p 1000001 := by unfold tameP; rw [if_pos (Or.inr k6)]
                have HPP := Lib.hid hpp
                have HMP := Lib.hid (fun w => mod_c p 1000001 w (by omega) (by omega))
                clear hp0 hpp
                have z02 : W2.cell? ⟨wr.heap.size, 0, none⟩ = some (.int .i64 (mf)) := by simp [World.cell?, HG2.out]
                have z12 : W2.cell? ⟨wr.heap.size, 1, none⟩ = some (.int .i64 (mf + 1 + mt)) := by simp [World.cell?, HG2.out]
                have z22 : W2.cell? ⟨wr.heap.size, 2, none⟩ = some (.int .i64 (p)) := by simp [World.cell?, HG2.out]
                have zf2 : ∀ k, W2.frozen? ⟨wr.heap.size, k, none⟩ = false := fun k => by simp [World.frozen?, HG2.out]
                go_wp2_with fail
                refine (HMP.out _).mono ?_
                rintro e w5 ⟨rfl, n5, rfl⟩
                go_upto_region 11 with fail
                obtain ⟨W3, hW3⟩ : ∃ W3, W3 = (W2.drewN n5).setCell ⟨wr.heap.size, 2, none⟩ (.int .i64 (modV p 1000001)) := ⟨_, rfl⟩
                rw [← hW3]
                have HG3 : Hid (W3.heap[wr.heap.size]? = some (.cells #[Value.int .i64 (mf), Value.int .i64 (mf + 1 + mt), Value.int .i64 (modV p 1000001)] 47 (0, 0))) := Lib.hid (by rw [hW3]; have := HG2.out; simp [World.setCell, Array.getElem?_modify, this])
                have HB3 : Hid (Below wr.heap.size wr W3) := Lib.hid (by rw [hW3]; exact (HB2.out.trans ((pw_below_drewN (Below.refl _ _) n5).mono (by show wr.heap.size ≤ W2.heap.size; omega))).setCell (p := ⟨wr.heap.size, 2, none⟩) (Nat.le_refl _) _)
                clear z02 z12 z22 zf2
                clear hW3
                have z03 : W3.cell? ⟨wr.heap.size, 0, none⟩ = some (.int .i64 (mf)) := by simp [World.cell?, HG3.out]
                have z13 : W3.cell? ⟨wr.heap.size, 1, none⟩ = some (.int .i64 (mf + 1 + mt)) := by simp [World.cell?, HG3.out]
                have z23 : W3.cell? ⟨wr.heap.size, 2, none⟩ = some (.int .i64 (modV p 1000001)) := by simp [World.cell?, HG3.out]
                have zf3 : ∀ k, W3.frozen? ⟨wr.heap.size, k, none⟩ = false := fun k => by simp [World.frozen?, HG3.out]
                have hy : tame1 (n : Int) ⟨f, t, p⟩ = ⟨mf, mf + 1 + mt, modV p 1000001⟩ := by
                  show (⟨tameF ⟨f, t, p⟩ n, tameT ⟨f, t, p⟩ n, tameP ⟨f, t, p⟩⟩ : S47) = _
                  rw [HFT.out, HTT.out, HPP.out]
                have HY := Lib.hid hy
                have hsW := HB3.out.size
                have hOW := Lib.hid (Kd.R_below HO.out HB3.out)
                clear hy
                try clear hs0
                try clear hs1
                try clear hs2
                go_wp2_with (at_builtin; refine Kd.R_append k47 (w0 := w) w.heap.size rfl (.tmp 70) (.tmp 72) 22 47 (.agg #[(.int .i64 0), (.int .i64 0), (.int .i64 0)]) 24 rfl Try.underlying22 info47 rfl (by decide) (by omega) u7 (M.take q) (⟨mf, mf + 1 + mt, modV p 1000001⟩ : S47) [.int .i64 (mf), .int .i64 (mf + 1 + mt), .int .i64 (modV p 1000001)] (fun _ => True) (fun _ => False) rfl rfl ?aP (fun _ hk => hk.elim) (fun _ _ => trivial) ?aO ?aB ?aS ?aL ?_)
                case aP => exact k47_mkM _ _ _ (⟨mf, mf + 1 + mt, modV p 1000001⟩ : S47)
                case aO => exact hOW.out
                case aB => exact hB.trans (HB3.out.mono (by omega))
                case aS => omega
                case aL => have h9 := HLEN.out; (try simp only [List.length_take] at h9 ⊢); omega
                intro v1 w9 ho hb hg hat
                have HO9 := Lib.hid ho
                clear ho hg hat
                clear z03 z13 z23 zf3
                go_wp2_with fail
                go_roundw
                case rel => exact ⟨q + 1, by go_num, by omega, by omega, (by rw [HNX.out, HY.out]; exact HO9.out), hb⟩
                case measure => simp [intOf]; omega
              · have hpp : tameP ⟨f, t, p⟩ = p := by unfold tameP; exact if_neg (show ¬ (p < 0 ∨ 1000000 < p) by omega)
                have HPP := Lib.hid hpp
                clear hpp
                have z02 : W2.cell? ⟨wr.heap.size, 0, none⟩ = some (.int .i64 (mf)) := by simp [World.cell?, HG2.out]
                have z12 : W2.cell? ⟨wr.heap.size, 1, none⟩ = some (.int .i64 (mf + 1 + mt)) := by simp [World.cell?, HG2.out]
                have z22 : W2.cell? ⟨wr.heap.size, 2, none⟩ = some (.int .i64 (p)) := by simp [World.cell?, HG2.out]
                have zf2 : ∀ k, W2.frozen? ⟨wr.heap.size, k, none⟩ = false := fun k => by simp [World.frozen?, HG2.out]
                go_upto_region 11 with fail
                clear z02 z12 z22 zf2
                have z02 : W2.cell? ⟨wr.heap.size, 0, none⟩ = some (.int .i64 (mf)) := by simp [World.cell?, HG2.out]
                have z12 : W2.cell? ⟨wr.heap.size, 1, none⟩ = some (.int .i64 (mf + 1 + mt)) := by simp [World.cell?, HG2.out]
                have z22 : W2.cell? ⟨wr.heap.size, 2, none⟩ = some (.int .i64 (p)) := by simp [World.cell?, HG2.out]
                have zf2 : ∀ k, W2.frozen? ⟨wr.heap.size, k, none⟩ = false := fun k => by simp [World.frozen?, HG2.out]
                have hy : tame1 (n : Int) ⟨f, t, p⟩ = ⟨mf, mf + 1 + mt, p⟩ := by
                  show (⟨tameF ⟨f, t, p⟩ n, tameT ⟨f, t, p⟩ n, tameP ⟨f, t, p⟩⟩ : S47) = _
                  rw [HFT.out, HTT.out, HPP.out]
                have HY := Lib.hid hy
                have hsW := HB2.out.size
                have hOW := Lib.hid (Kd.R_below HO.out HB2.out)
                clear hy
                try clear hs0
                try clear hs1
                try clear hs2
                go_wp2_with (at_builtin; refine Kd.R_append k47 (w0 := w) w.heap.size rfl (.tmp 70) (.tmp 72) 22 47 (.agg #[(.int .i64 0), (.int .i64 0), (.int .i64 0)]) 24 rfl Try.underlying22 info47 rfl (by decide) (by omega) u7 (M.take q) (⟨mf, mf + 1 + mt, p⟩ : S47) [.int .i64 (mf), .int .i64 (mf + 1 + mt), .int .i64 (p)] (fun _ => True) (fun _ => False) rfl rfl ?aP (fun _ hk => hk.elim) (fun _ _ => trivial) ?aO ?aB ?aS ?aL ?_)
                case aP => exact k47_mkM _ _ _ (⟨mf, mf + 1 + mt, p⟩ : S47)
                case aO => exact hOW.out
                case aB => exact hB.trans (HB2.out.mono (by omega))
                case aS => omega
                case aL => have h9 := HLEN.out; (try simp only [List.length_take] at h9 ⊢); omega
                intro v1 w9 ho hb hg hat
                have HO9 := Lib.hid ho
                clear ho hg hat
                clear z02 z12 z22 zf2
                go_wp2_with fail
                go_roundw
                case rel => exact ⟨q + 1, by go_num, by omega, by omega, (by rw [HNX.out, HY.out]; exact HO9.out), hb⟩
                case measure => simp [intOf]; omega
        · by_cases k2 : (n : Int) < t
          · have ha := modV_bd (x := f) (n := n) (by omega) (by omega)
            have ha1 := ha.1
            have ha2 := ha.2.1
            have hb0 := modV_bd (x := t) (n := (n : Int) - modV f n) (by omega) (by omega)
            have hb1 := hb0.1
            have hb2 := hb0.2.1
            have HMF := Lib.hid (fun w => mod_c f n w (by omega) (by omega))
            have HMT := Lib.hid (fun w => mod_c t ((n : Int) - modV f n) w (by omega) (by omega))
            obtain ⟨mf, hmf⟩ : ∃ mf, mf = modV f n := ⟨_, rfl⟩
            rw [← hmf] at HMF HMT ha1 ha2 hb0 hb1 hb2
            obtain ⟨mt, hmt⟩ : ∃ mt, mt = modV t ((n : Int) - mf) := ⟨_, rfl⟩
            rw [← hmt] at HMT hb1 hb2
            have HMFE := Lib.hid hmf
            have HMTE := Lib.hid hmt
            clear ha hb0 hmf hmt
            go_wp2_with fail
            rw [← HW0.out]
            refine (HMF.out _).mono ?_
            rintro e w3 ⟨rfl, n3, rfl⟩
            have z00 : W0.cell? ⟨wr.heap.size, 0, none⟩ = some (.int .i64 (f)) := by simp [World.cell?, HG0.out]
            have z10 : W0.cell? ⟨wr.heap.size, 1, none⟩ = some (.int .i64 (t)) := by simp [World.cell?, HG0.out]
            have z20 : W0.cell? ⟨wr.heap.size, 2, none⟩ = some (.int .i64 (p)) := by simp [World.cell?, HG0.out]
            have zf0 : ∀ k, W0.frozen? ⟨wr.heap.size, k, none⟩ = false := fun k => by simp [World.frozen?, HG0.out]
            obtain ⟨W1, hW1⟩ : ∃ W1, W1 = (W0.drewN n3).setCell ⟨wr.heap.size, 0, none⟩ (.int .i64 mf) := ⟨_, rfl⟩
            have HG1 : Hid (W1.heap[wr.heap.size]? = some (.cells #[Value.int .i64 mf, Value.int .i64 t, Value.int .i64 p] 47 (0, 0))) := Lib.hid (by rw [hW1]; have := HG0.out; simp [World.setCell, Array.getElem?_modify, World.drewN, this])
            have HB1 : Hid (Below wr.heap.size wr W1) := Lib.hid (by rw [hW1]; exact (HBW0.out.trans ((pw_below_drewN (Below.refl _ _) n3).mono (by show wr.heap.size ≤ W0.heap.size; omega))).setCell (p := ⟨wr.heap.size, 0, none⟩) (Nat.le_refl _) _)
            have hs1 : W1.heap.size = wr.heap.size + 1 := by rw [hW1]; simp [World.setCell, World.drewN, hs0]
            have HW1 := Lib.hid hW1
            clear hW1
            go_wp2_with fail
            rw [← HW1.out]
            clear z00 z10 z20 zf0
            have CE : Hid (∀ w', R.Keeps [] W1 w' → w'.cell? ⟨wr.heap.size, 0, none⟩ = some (.int .i64 mf) ∧ w'.cell? ⟨wr.heap.size, 1, none⟩ = some (.int .i64 t)) := Lib.hid (fun w' h =>
              ⟨h.cell (a := ⟨wr.heap.size, 0, none⟩) (by simp [World.cell?, HG1.out]) (by simp), h.cell (a := ⟨wr.heap.size, 1, none⟩) (by simp [World.cell?, HG1.out]) (by simp)⟩)
            have hk1 : mf ≤ 1000 := by omega
            have hk2 : mt ≤ 1000 := by omega
            have hk3 : (n : Int) ≤ 1000 := by omega
            have hi3 : -4611686018427387904 ≤ mf + 1 + mt ∧ mf + 1 + mt ≤ 4611686018427387904 := by omega
            have hi2 : -4611686018427387904 ≤ (n : Int) - mf ∧ (n : Int) - mf ≤ 4611686018427387904 := by omega
            have hi1 : -4611686018427387904 ≤ mf + 1 ∧ mf + 1 ≤ 4611686018427387904 := by omega
            have e1 : IntKind.i64.wrap (mf + 1) = mf + 1 := by rw [i64_w]; exact wrapI hi1
            have e2 : IntKind.i64.wrap ((n : Int) - mf) = (n : Int) - mf := by rw [i64_w]; exact wrapI hi2
            have e3 : IntKind.i64.wrap (mf + 1 + mt) = mf + 1 + mt := by rw [i64_w]; exact wrapI hi3
            clear hi1 hi2 hi3
            apply R.wp_region_text [0, 1, 2, 3, 4, 5, 6, 7, 8] [9, 10, 11, 12] 12 (R.Keeps [] W1)
            case hm => kernel_rfl
            case hB => kernel_rfl
            case hd => rfl
            case hQ => exact fun _ _ _ _ _ h => h
            case hS => exact (R.Keeps.refl _ _).drew
            case hF =>
              intro w' hS
              obtain ⟨c1, c2⟩ := CE.out w' hS
              have HS := Lib.hid hS
              clear hS
              simp only [R.pickC, List.filterMap_cons, List.getElem?_toArray, List.getElem?_cons_zero, List.getElem?_cons_succ, List.filterMap_nil]
              iterate 9 ((with_reducible refine R.wpStill_plain rfl (fun K hK => ?_)); go_simp; with_reducible refine hK _ ?_; clear hK K)
              exact wpStill_nil rfl
            case hC =>
              simp only [R.chainOf, List.getElem?_toArray, List.getElem?_cons_zero, List.getElem?_cons_succ, Nat.reduceBNe, Bool.and_true, Bool.and_false, Bool.false_and]
              refine R.wpSeq_same (fun K hK => ?_)
              go_simp
              refine (HMT.out _).mono ?_
              rintro e w4 ⟨rfl, n4, rfl⟩
              have hk4 : R.Keeps [] W1 (W1.drewN (1 + n4)) := R.Keeps.of_below [] (pw_below_drewN (Below.refl _ _) (1 + n4))
              refine hK _ _ (((R.Keeps.refl _ _).drew).below (pw_below_drewN (Below.refl _ _) n4)) ?_
              clear hK K
              refine R.wpSeq_same (fun K hK => ?_)
              go_simp
              with_reducible refine hK _ _ hk4 ?_
              clear hK K
              refine R.wpSeq_same (fun K hK => ?_)
              go_simp
              with_reducible refine hK _ _ hk4 ?_
              clear hK K
              clear e1 e2 e3
              refine R.wpSeq_tail _ rfl ?_
              simp only [List.map_cons, List.map_nil]
              have HG4 : Hid ((W1.drewN (1 + n4)).heap[wr.heap.size]? = some (.cells #[Value.int .i64 mf, Value.int .i64 t, Value.int .i64 p] 47 (0, 0))) := Lib.hid (by have := HG1.out; simpa [World.drewN, World.drew] using this)
              have HK4 := Lib.hid hk4
              clear hk4
              have z04 : (W1.drewN (1 + n4)).cell? ⟨wr.heap.size, 0, none⟩ = some (.int .i64 (mf)) := by simp [World.cell?, HG1.out]
              have z14 : (W1.drewN (1 + n4)).cell? ⟨wr.heap.size, 1, none⟩ = some (.int .i64 (t)) := by simp [World.cell?, HG1.out]
              have z24 : (W1.drewN (1 + n4)).cell? ⟨wr.heap.size, 2, none⟩ = some (.int .i64 (p)) := by simp [World.cell?, HG1.out]
              have zf4 : ∀ k, (W1.drewN (1 + n4)).frozen? ⟨wr.heap.size, k, none⟩ = false := fun k => by simp [World.frozen?, HG1.out]
              obtain ⟨W2, hW2⟩ : ∃ W2, W2 = (W1.drewN (1 + n4)).setCell ⟨wr.heap.size, 1, none⟩ (.int .i64 (mf + 1 + mt)) := ⟨_, rfl⟩
              have HG2 : Hid (W2.heap[wr.heap.size]? = some (.cells #[Value.int .i64 mf, Value.int .i64 (mf + 1 + mt), Value.int .i64 p] 47 (0, 0))) := Lib.hid (by rw [hW2]; have := HG1.out; simp [World.setCell, Array.getElem?_modify, this])
              have HB2 : Hid (Below wr.heap.size wr W2) := Lib.hid (by rw [hW2]; exact (HB1.out.trans (HK4.out.to_below (by omega) (fun k hk => by simp at hk))).setCell (p := ⟨wr.heap.size, 1, none⟩) (Nat.le_refl _) _)
              have hs2 : W2.heap.size = wr.heap.size + 1 := by rw [hW2]; simpa [World.setCell, World.drewN, World.drew] using hs1
              have HW2 := Lib.hid hW2
              clear hW2
              go_upto_region 9 with fail
              rw [← HW2.out]
              clear z04 z14 z24 zf4
              have hft : tameF ⟨f, t, p⟩ n = mf := by unfold tameF; rw [if_pos (Or.inr (Or.inl k2))]; exact HMFE.out.symm
              have htt : tameT ⟨f, t, p⟩ n = mf + 1 + mt := by unfold tameT; rw [if_pos (Or.inr (Or.inl k2)), ← HMFE.out, ← HMTE.out]
              have HFT := Lib.hid hft
              have HTT := Lib.hid htt
              clear hft htt
              by_cases k5 : p < 0
              · have hp0 := modV_bd (x := p) (n := 1000001) (by omega) (by omega)
                have hpp : tameP ⟨f, t, p⟩ = modV p 1000001 := by unfold tameP; rw [if_pos (Or.inl k5)]
                have HPP := Lib.hid hpp
                have HMP := Lib.hid (fun w => mod_c p 1000001 w (by omega) (by omega))
                clear hp0 hpp
                have z02 : W2.cell? ⟨wr.heap.size, 0, none⟩ = some (.int .i64 (mf)) := by simp [World.cell?, HG2.out]
                have z12 : W2.cell? ⟨wr.heap.size, 1, none⟩ = some (.int .i64 (mf + 1 + mt)) := by simp [World.cell?, HG2.out]
                have z22 : W2.cell? ⟨wr.heap.size, 2, none⟩ = some (.int .i64 (p)) := by simp [World.cell?, HG2.out]
                have zf2 : ∀ k, W2.frozen? ⟨wr.heap.size, k, none⟩ = false := fun k => by simp [World.frozen?, HG2.out]
                go_wp2_with fail
                refine (HMP.out _).mono ?_
                rintro e w5 ⟨rfl, n5, rfl⟩
                go_upto_region 11 with fail
                obtain ⟨W3, hW3⟩ : ∃ W3, W3 = (W2.drewN n5).setCell ⟨wr.heap.size, 2, none⟩ (.int .i64 (modV p 1000001)) := ⟨_, rfl⟩
                rw [← hW3]
                have HG3 : Hid (W3.heap[wr.heap.size]? = some (.cells #[Value.int .i64 (mf), Value.int .i64 (mf + 1 + mt), Value.int .i64 (modV p 1000001)] 47 (0, 0))) := Lib.hid (by rw [hW3]; have := HG2.out; simp [World.setCell, Array.getElem?_modify, this])
                have HB3 : Hid (Below wr.heap.size wr W3) := Lib.hid (by rw [hW3]; exact (HB2.out.trans ((pw_below_drewN (Below.refl _ _) n5).mono (by show wr.heap.size ≤ W2.heap.size; omega))).setCell (p := ⟨wr.heap.size, 2, none⟩) (Nat.le_refl _) _)
                clear z02 z12 z22 zf2
                clear hW3
                have z03 : W3.cell? ⟨wr.heap.size, 0, none⟩ = some (.int .i64 (mf)) := by simp [World.cell?, HG3.out]
                have z13 : W3.cell? ⟨wr.heap.size, 1, none⟩ = some (.int .i64 (mf + 1 + mt)) := by simp [World.cell?, HG3.out]
                have z23 : W3.cell? ⟨wr.heap.size, 2, none⟩ = some (.int .i64 (modV p 1000001)) := by simp [World.cell?, HG3.out]
                have zf3 : ∀ k, W3.frozen? ⟨wr.heap.size, k, none⟩ = false := fun k => by simp [World.frozen?, HG3.out]
                have hy : tame1 (n : Int) ⟨f, t, p⟩ = ⟨mf, mf + 1 + mt, modV p 1000001⟩ := by
                  show (⟨tameF ⟨f, t, p⟩ n, tameT ⟨f, t, p⟩ n, tameP ⟨f, t, p⟩⟩ : S47) = _
                  rw [HFT.out, HTT.out, HPP.out]
                have HY := Lib.hid hy
                have hsW := HB3.out.size
                have hOW := Lib.hid (Kd.R_below HO.out HB3.out)
                clear hy
                try clear hs0
                try clear hs1
                try clear hs2
                go_wp2_with (at_builtin; refine Kd.R_append k47 (w0 := w) w.heap.size rfl (.tmp 70) (.tmp 72) 22 47 (.agg #[(.int .i64 0), (.int .i64 0), (.int .i64 0)]) 24 rfl Try.underlying22 info47 rfl (by decide) (by omega) u7 (M.take q) (⟨mf, mf + 1 + mt, modV p 1000001⟩ : S47) [.int .i64 (mf), .int .i64 (mf + 1 + mt), .int .i64 (modV p 1000001)] (fun _ => True) (fun _ => False) rfl rfl ?aP (fun _ hk => hk.elim) (fun _ _ => trivial) ?aO ?aB ?aS ?aL ?_)
                case aP => exact k47_mkM _ _ _ (⟨mf, mf + 1 + mt, modV p 1000001⟩ : S47)
                case aO => exact hOW.out
                case aB => exact hB.trans (HB3.out.mono (by omega))
                case aS => omega
                case aL => have h9 := HLEN.out; (try simp only [List.length_take] at h9 ⊢); omega
                intro v1 w9 ho hb hg hat
                have HO9 := Lib.hid ho
                clear ho hg hat
                clear z03 z13 z23 zf3
                go_wp2_with fail
                go_roundw
                case rel => exact ⟨q + 1, by go_num, by omega, by omega, (by rw [HNX.out, HY.out]; exact HO9.out), hb⟩
                case measure => simp [intOf]; omega
              · by_cases k6 : 1000000 < p
                · have hp0 := modV_bd (x := p) (n := 1000001) (by omega) (by omega)
                  have hpp : tameP ⟨f, t, p⟩ = modV p 1000001 := by unfold tameP; rw [if_pos (Or.inr k6)]
                  have HPP := Lib.hid hpp
                  have HMP := Lib.hid (fun w => mod_c p 1000001 w (by omega) (by omega))
                  clear hp0 hpp
                  have z02 : W2.cell? ⟨wr.heap.size, 0, none⟩ = some (.int .i64 (mf)) := by simp [World.cell?, HG2.out]
                  have z12 : W2.cell? ⟨wr.heap.size, 1, none⟩ = some (.int .i64 (mf + 1 + mt)) := by simp [World.cell?, HG2.out]
                  have z22 : W2.cell? ⟨wr.heap.size, 2, none⟩ = some (.int .i64 (p)) := by simp [World.cell?, HG2.out]
                  have zf2 : ∀ k, W2.frozen? ⟨wr.heap.size, k, none⟩ = false := fun k => by simp [World.frozen?, HG2.out]
                  go_wp2_with fail
                  refine (HMP.out _).mono ?_
                  rintro e w5 ⟨rfl, n5, rfl⟩
                  go_upto_region 11 with fail
                  obtain ⟨W3, hW3⟩ : ∃ W3, W3 = (W2.drewN n5).setCell ⟨wr.heap.size, 2, none⟩ (.int .i64 (modV p 1000001)) := ⟨_, rfl⟩
                  rw [← hW3]
                  have HG3 : Hid (W3.heap[wr.heap.size]? = some (.cells #[Value.int .i64 (mf), Value.int .i64 (mf + 1 + mt), Value.int .i64 (modV p 1000001)] 47 (0, 0))) := Lib.hid (by rw [hW3]; have := HG2.out; simp [World.setCell, Array.getElem?_modify, this])
                  have HB3 : Hid (Below wr.heap.size wr W3) := Lib.hid (by rw [hW3]; exact (HB2.out.trans ((pw_below_drewN (Below.refl _ _) n5).mono (by show wr.heap.size ≤ W2.heap.size; omega))).setCell (p := ⟨wr.heap.size, 2, none⟩) (Nat.le_refl _) _)
                  clear z02 z12 z22 zf2
                  clear hW3
                  have z03 : W3.cell? ⟨wr.heap.size, 0, none⟩ = some (.int .i64 (mf)) := by simp [World.cell?, HG3.out]
                  have z13 : W3.cell? ⟨wr.heap.size, 1, none⟩ = some (.int .i64 (mf + 1 + mt)) := by simp [World.cell?, HG3.out]
                  have z23 : W3.cell? ⟨wr.heap.size, 2, none⟩ = some (.int .i64 (modV p 1000001)) := by simp [World.cell?, HG3.out]
                  have zf3 : ∀ k, W3.frozen? ⟨wr.heap.size, k, none⟩ = false := fun k => by simp [World.frozen?, HG3.out]
                  have hy : tame1 (n : Int) ⟨f, t, p⟩ = ⟨mf, mf + 1 + mt, modV p 1000001⟩ := by
                    show (⟨tameF ⟨f, t, p⟩ n, tameT ⟨f, t, p⟩ n, tameP ⟨f, t, p⟩⟩ : S47) = _
                    rw [HFT.out, HTT.out, HPP.out]
                  have HY := Lib.hid hy
                  have hsW := HB3.out.size
                  have hOW := Lib.hid (Kd.R_below HO.out HB3.out)
                  clear hy
                  try clear hs0
                  try clear hs1
                  try clear hs2
                  go_wp2_with (at_builtin; refine Kd.R_append k47 (w0 := w) w.heap.size rfl (.tmp 70) (.tmp 72) 22 47 (.agg #[(.int .i64 0), (.int .i64 0), (.int .i64 0)]) 24 rfl Try.underlying22 info47 rfl (by decide) (by omega) u7 (M.take q) (⟨mf, mf + 1 + mt, modV p 1000001⟩ : S47) [.int .i64 (mf), .int .i64 (mf + 1 + mt), .int .i64 (modV p 1000001)] (fun _ => True) (fun _ => False) rfl rfl ?aP (fun _ hk => hk.elim) (fun _ _ => trivial) ?aO ?aB ?aS ?aL ?_)
                  case aP => exact k47_mkM _ _ _ (⟨mf, mf + 1 + mt, modV p 1000001⟩ : S47)
                  case aO => exact hOW.out
                  case aB => exact hB.trans (HB3.out.mono (by omega))
                  case aS => omega
                  case aL => have h9 := HLEN.out; (try simp only [List.length_take] at h9 ⊢); omega
                  intro v1 w9 ho hb hg hat
                  have HO9 := Lib.hid ho
                  clear ho hg hat
                  clear z03 z13 z23 zf3
                  go_wp2_with fail
                  go_roundw
                  case rel => exact ⟨q + 1, by go_num, by omega, by omega, (by rw [HNX.out, HY.out]; exact HO9.out), hb⟩
                  case measure => simp [intOf]; omega
                · have hpp : tameP ⟨f, t, p⟩ = p := by unfold tameP; exact if_neg (show ¬ (p < 0 ∨ 1000000 < p) by omega)
                  have HPP := Lib.hid hpp
                  clear hpp
                  have z02 : W2.cell? ⟨wr.heap.size, 0, none⟩ = some (.int .i64 (mf)) := by simp [World.cell?, HG2.out]
                  have z12 : W2.cell? ⟨wr.heap.size, 1, none⟩ = some (.int .i64 (mf + 1 + mt)) := by simp [World.cell?, HG2.out]
                  have z22 : W2.cell? ⟨wr.heap.size, 2, none⟩ = some (.int .i64 (p)) := by simp [World.cell?, HG2.out]
                  have zf2 : ∀ k, W2.frozen? ⟨wr.heap.size, k, none⟩ = false := fun k => by simp [World.frozen?, HG2.out]
                  go_upto_region 11 with fail
                  clear z02 z12 z22 zf2
                  have z02 : W2.cell? ⟨wr.heap.size, 0, none⟩ = some (.int .i64 (mf)) := by simp [World.cell?, HG2.out]
                  have z12 : W2.cell? ⟨wr.heap.size, 1, none⟩ = some (.int .i64 (mf + 1 + mt)) := by simp [World.cell?, HG2.out]
                  have z22 : W2.cell? ⟨wr.heap.size, 2, none⟩ = some (.int .i64 (p)) := by simp [World.cell?, HG2.out]
                  have zf2 : ∀ k, W2.frozen? ⟨wr.heap.size, k, none⟩ = false := fun k => by simp [World.frozen?, HG2.out]
                  have hy : tame1 (n : Int) ⟨f, t, p⟩ = ⟨mf, mf + 1 + mt, p⟩ := by
                    show (⟨tameF ⟨f, t, p⟩ n, tameT ⟨f, t, p⟩ n, tameP ⟨f, t, p⟩⟩ : S47) = _
                    rw [HFT.out, HTT.out, HPP.out]
                  have HY := Lib.hid hy
                  have hsW := HB2.out.size
                  have hOW := Lib.hid (Kd.R_below HO.out HB2.out)
                  clear hy
                  try clear hs0
                  try clear hs1
                  try clear hs2
                  go_wp2_with (at_builtin; refine Kd.R_append k47 (w0 := w) w.heap.size rfl (.tmp 70) (.tmp 72) 22 47 (.agg #[(.int .i64 0), (.int .i64 0), (.int .i64 0)]) 24 rfl Try.underlying22 info47 rfl (by decide) (by omega) u7 (M.take q) (⟨mf, mf + 1 + mt, p⟩ : S47) [.int .i64 (mf), .int .i64 (mf + 1 + mt), .int .i64 (p)] (fun _ => True) (fun _ => False) rfl rfl ?aP (fun _ hk => hk.elim) (fun _ _ => trivial) ?aO ?aB ?aS ?aL ?_)
                  case aP => exact k47_mkM _ _ _ (⟨mf, mf + 1 + mt, p⟩ : S47)
                  case aO => exact hOW.out
                  case aB => exact hB.trans (HB2.out.mono (by omega))
                  case aS => omega
                  case aL => have h9 := HLEN.out; (try simp only [List.length_take] at h9 ⊢); omega
                  intro v1 w9 ho hb hg hat
                  have HO9 := Lib.hid ho
                  clear ho hg hat
                  clear z02 z12 z22 zf2
                  go_wp2_with fail
                  go_roundw
                  case rel => exact ⟨q + 1, by go_num, by omega, by omega, (by rw [HNX.out, HY.out]; exact HO9.out), hb⟩
                  case measure => simp [intOf]; omega
          · by_cases k3 : t ≤ f
            · have ha := modV_bd (x := f) (n := n) (by omega) (by omega)
              have ha1 := ha.1
              have ha2 := ha.2.1
              have hb0 := modV_bd (x := t) (n := (n : Int) - modV f n) (by omega) (by omega)
              have hb1 := hb0.1
              have hb2 := hb0.2.1
              have HMF := Lib.hid (fun w => mod_c f n w (by omega) (by omega))
              have HMT := Lib.hid (fun w => mod_c t ((n : Int) - modV f n) w (by omega) (by omega))
              obtain ⟨mf, hmf⟩ : ∃ mf, mf = modV f n := ⟨_, rfl⟩
              rw [← hmf] at HMF HMT ha1 ha2 hb0 hb1 hb2
              obtain ⟨mt, hmt⟩ : ∃ mt, mt = modV t ((n : Int) - mf) := ⟨_, rfl⟩
              rw [← hmt] at HMT hb1 hb2
              have HMFE := Lib.hid hmf
              have HMTE := Lib.hid hmt
              clear ha hb0 hmf hmt
              go_wp2_with fail
              rw [← HW0.out]
              refine (HMF.out _).mono ?_
              rintro e w3 ⟨rfl, n3, rfl⟩
              have z00 : W0.cell? ⟨wr.heap.size, 0, none⟩ = some (.int .i64 (f)) := by simp [World.cell?, HG0.out]
              have z10 : W0.cell? ⟨wr.heap.size, 1, none⟩ = some (.int .i64 (t)) := by simp [World.cell?, HG0.out]
              have z20 : W0.cell? ⟨wr.heap.size, 2, none⟩ = some (.int .i64 (p)) := by simp [World.cell?, HG0.out]
              have zf0 : ∀ k, W0.frozen? ⟨wr.heap.size, k, none⟩ = false := fun k => by simp [World.frozen?, HG0.out]
              obtain ⟨W1, hW1⟩ : ∃ W1, W1 = (W0.drewN n3).setCell ⟨wr.heap.size, 0, none⟩ (.int .i64 mf) := ⟨_, rfl⟩
              have HG1 : Hid (W1.heap[wr.heap.size]? = some (.cells #[Value.int .i64 mf, Value.int .i64 t, Value.int .i64 p] 47 (0, 0))) := Lib.hid (by rw [hW1]; have := HG0.out; simp [World.setCell, Array.getElem?_modify, World.drewN, this])
              have HB1 : Hid (Below wr.heap.size wr W1) := Lib.hid (by rw [hW1]; exact (HBW0.out.trans ((pw_below_drewN (Below.refl _ _) n3).mono (by show wr.heap.size ≤ W0.heap.size; omega))).setCell (p := ⟨wr.heap.size, 0, none⟩) (Nat.le_refl _) _)
              have hs1 : W1.heap.size = wr.heap.size + 1 := by rw [hW1]; simp [World.setCell, World.drewN, hs0]
              have HW1 := Lib.hid hW1
              clear hW1
              go_wp2_with fail
              rw [← HW1.out]
              clear z00 z10 z20 zf0
              have CE : Hid (∀ w', R.Keeps [] W1 w' → w'.cell? ⟨wr.heap.size, 0, none⟩ = some (.int .i64 mf) ∧ w'.cell? ⟨wr.heap.size, 1, none⟩ = some (.int .i64 t)) := Lib.hid (fun w' h =>
                ⟨h.cell (a := ⟨wr.heap.size, 0, none⟩) (by simp [World.cell?, HG1.out]) (by simp), h.cell (a := ⟨wr.heap.size, 1, none⟩) (by simp [World.cell?, HG1.out]) (by simp)⟩)
              have hk1 : mf ≤ 1000 := by omega
              have hk2 : mt ≤ 1000 := by omega
              have hk3 : (n : Int) ≤ 1000 := by omega
              have hi3 : -4611686018427387904 ≤ mf + 1 + mt ∧ mf + 1 + mt ≤ 4611686018427387904 := by omega
              have hi2 : -4611686018427387904 ≤ (n : Int) - mf ∧ (n : Int) - mf ≤ 4611686018427387904 := by omega
              have hi1 : -4611686018427387904 ≤ mf + 1 ∧ mf + 1 ≤ 4611686018427387904 := by omega
              have e1 : IntKind.i64.wrap (mf + 1) = mf + 1 := by rw [i64_w]; exact wrapI hi1
              have e2 : IntKind.i64.wrap ((n : Int) - mf) = (n : Int) - mf := by rw [i64_w]; exact wrapI hi2
              have e3 : IntKind.i64.wrap (mf + 1 + mt) = mf + 1 + mt := by rw [i64_w]; exact wrapI hi3
              clear hi1 hi2 hi3
              apply R.wp_region_text [0, 1, 2, 3, 4, 5, 6, 7, 8] [9, 10, 11, 12] 12 (R.Keeps [] W1)
              case hm => kernel_rfl
              case hB => kernel_rfl
              case hd => rfl
              case hQ => exact fun _ _ _ _ _ h => h
              case hS => exact (R.Keeps.refl _ _).drew
              case hF =>
                intro w' hS
                obtain ⟨c1, c2⟩ := CE.out w' hS
                have HS := Lib.hid hS
                clear hS
                simp only [R.pickC, List.filterMap_cons, List.getElem?_toArray, List.getElem?_cons_zero, List.getElem?_cons_succ, List.filterMap_nil]
                iterate 9 ((with_reducible refine R.wpStill_plain rfl (fun K hK => ?_)); go_simp; with_reducible refine hK _ ?_; clear hK K)
                exact wpStill_nil rfl
              case hC =>
                simp only [R.chainOf, List.getElem?_toArray, List.getElem?_cons_zero, List.getElem?_cons_succ, Nat.reduceBNe, Bool.and_true, Bool.and_false, Bool.false_and]
                refine R.wpSeq_same (fun K hK => ?_)
                go_simp
                refine (HMT.out _).mono ?_
                rintro e w4 ⟨rfl, n4, rfl⟩
                have hk4 : R.Keeps [] W1 (W1.drewN (1 + n4)) := R.Keeps.of_below [] (pw_below_drewN (Below.refl _ _) (1 + n4))
                refine hK _ _ (((R.Keeps.refl _ _).drew).below (pw_below_drewN (Below.refl _ _) n4)) ?_
                clear hK K
                refine R.wpSeq_same (fun K hK => ?_)
                go_simp
                with_reducible refine hK _ _ hk4 ?_
                clear hK K
                refine R.wpSeq_same (fun K hK => ?_)
                go_simp
                with_reducible refine hK _ _ hk4 ?_
                clear hK K
                clear e1 e2 e3
                refine R.wpSeq_tail _ rfl ?_
                simp only [List.map_cons, List.map_nil]
                have HG4 : Hid ((W1.drewN (1 + n4)).heap[wr.heap.size]? = some (.cells #[Value.int .i64 mf, Value.int .i64 t, Value.int .i64 p] 47 (0, 0))) := Lib.hid (by have := HG1.out; simpa [World.drewN, World.drew] using this)
                have HK4 := Lib.hid hk4
                clear hk4
                have z04 : (W1.drewN (1 + n4)).cell? ⟨wr.heap.size, 0, none⟩ = some (.int .i64 (mf)) := by simp [World.cell?, HG1.out]
                have z14 : (W1.drewN (1 + n4)).cell? ⟨wr.heap.size, 1, none⟩ = some (.int .i64 (t)) := by simp [World.cell?, HG1.out]
                have z24 : (W1.drewN (1 + n4)).cell? ⟨wr.heap.size, 2, none⟩ = some (.int .i64 (p)) := by simp [World.cell?, HG1.out]
                have zf4 : ∀ k, (W1.drewN (1 + n4)).frozen? ⟨wr.heap.size, k, none⟩ = false := fun k => by simp [World.frozen?, HG1.out]
                obtain ⟨W2, hW2⟩ : ∃ W2, W2 = (W1.drewN (1 + n4)).setCell ⟨wr.heap.size, 1, none⟩ (.int .i64 (mf + 1 + mt)) := ⟨_, rfl⟩
                have HG2 : Hid (W2.heap[wr.heap.size]? = some (.cells #[Value.int .i64 mf, Value.int .i64 (mf + 1 + mt), Value.int .i64 p] 47 (0, 0))) := Lib.hid (by rw [hW2]; have := HG1.out; simp [World.setCell, Array.getElem?_modify, this])
                have HB2 : Hid (Below wr.heap.size wr W2) := Lib.hid (by rw [hW2]; exact (HB1.out.trans (HK4.out.to_below (by omega) (fun k hk => by simp at hk))).setCell (p := ⟨wr.heap.size, 1, none⟩) (Nat.le_refl _) _)
                have hs2 : W2.heap.size = wr.heap.size + 1 := by rw [hW2]; simpa [World.setCell, World.drewN, World.drew] using hs1
                have HW2 := Lib.hid hW2
                clear hW2
                go_upto_region 9 with fail
                rw [← HW2.out]
                clear z04 z14 z24 zf4
                have hft : tameF ⟨f, t, p⟩ n = mf := by unfold tameF; rw [if_pos (Or.inr (Or.inr k3))]; exact HMFE.out.symm
                have htt : tameT ⟨f, t, p⟩ n = mf + 1 + mt := by unfold tameT; rw [if_pos (Or.inr (Or.inr k3)), ← HMFE.out, ← HMTE.out]
                have HFT := Lib.hid hft
                have HTT := Lib.hid htt
                clear hft htt
                by_cases k5 : p < 0
                · have hp0 := modV_bd (x := p) (n := 1000001) (by omega) (by omega)
                  have hpp : tameP ⟨f, t, p⟩ = modV p 1000001 := by unfold tameP; rw [if_pos (Or.inl k5)]
                  have HPP := Lib.hid hpp
                  have HMP := Lib.hid (fun w => mod_c p 1000001 w (by omega) (by omega))
                  clear hp0 hpp
                  have z02 : W2.cell? ⟨wr.heap.size, 0, none⟩ = some (.int .i64 (mf)) := by simp [World.cell?, HG2.out]
                  have z12 : W2.cell? ⟨wr.heap.size, 1, none⟩ = some (.int .i64 (mf + 1 + mt)) := by simp [World.cell?, HG2.out]
                  have z22 : W2.cell? ⟨wr.heap.size, 2, none⟩ = some (.int .i64 (p)) := by simp [World.cell?, HG2.out]
                  have zf2 : ∀ k, W2.frozen? ⟨wr.heap.size, k, none⟩ = false := fun k => by simp [World.frozen?, HG2.out]
                  go_wp2_with fail
                  refine (HMP.out _).mono ?_
                  rintro e w5 ⟨rfl, n5, rfl⟩
                  go_upto_region 11 with fail
                  obtain ⟨W3, hW3⟩ : ∃ W3, W3 = (W2.drewN n5).setCell ⟨wr.heap.size, 2, none⟩ (.int .i64 (modV p 1000001)) := ⟨_, rfl⟩
                  rw [← hW3]
                  have HG3 : Hid (W3.heap[wr.heap.size]? = some (.cells #[Value.int .i64 (mf), Value.int .i64 (mf + 1 + mt), Value.int .i64 (modV p 1000001)] 47 (0, 0))) := Lib.hid (by rw [hW3]; have := HG2.out; simp [World.setCell, Array.getElem?_modify, this])
                  have HB3 : Hid (Below wr.heap.size wr W3) := Lib.hid (by rw [hW3]; exact (HB2.out.trans ((pw_below_drewN (Below.refl _ _) n5).mono (by show wr.heap.size ≤ W2.heap.size; omega))).setCell (p := ⟨wr.heap.size, 2, none⟩) (Nat.le_refl _) _)
                  clear z02 z12 z22 zf2
                  clear hW3
                  have z03 : W3.cell? ⟨wr.heap.size, 0, none⟩ = some (.int .i64 (mf)) := by simp [World.cell?, HG3.out]
                  have z13 : W3.cell? ⟨wr.heap.size, 1, none⟩ = some (.int .i64 (mf + 1 + mt)) := by simp [World.cell?, HG3.out]
                  have z23 : W3.cell? ⟨wr.heap.size, 2, none⟩ = some (.int .i64 (modV p 1000001)) := by simp [World.cell?, HG3.out]
                  have zf3 : ∀ k, W3.frozen? ⟨wr.heap.size, k, none⟩ = false := fun k => by simp [World.frozen?, HG3.out]
                  have hy : tame1 (n : Int) ⟨f, t, p⟩ = ⟨mf, mf + 1 + mt, modV p 1000001⟩ := by
                    show (⟨tameF ⟨f, t, p⟩ n, tameT ⟨f, t, p⟩ n, tameP ⟨f, t, p⟩⟩ : S47) = _
                    rw [HFT.out, HTT.out, HPP.out]
                  have HY := Lib.hid hy
                  have hsW := HB3.out.size
                  have hOW := Lib.hid (Kd.R_below HO.out HB3.out)
                  clear hy
                  try clear hs0
                  try clear hs1
                  try clear hs2
                  go_wp2_with (at_builtin; refine Kd.R_append k47 (w0 := w) w.heap.size rfl (.tmp 70) (.tmp 72) 22 47 (.agg #[(.int .i64 0), (.int .i64 0), (.int .i64 0)]) 24 rfl Try.underlying22 info47 rfl (by decide) (by omega) u7 (M.take q) (⟨mf, mf + 1 + mt, modV p 1000001⟩ : S47) [.int .i64 (mf), .int .i64 (mf + 1 + mt), .int .i64 (modV p 1000001)] (fun _ => True) (fun _ => False) rfl rfl ?aP (fun _ hk => hk.elim) (fun _ _ => trivial) ?aO ?aB ?aS ?aL ?_)
                  case aP => exact k47_mkM _ _ _ (⟨mf, mf + 1 + mt, modV p 1000001⟩ : S47)
                  case aO => exact hOW.out
                  case aB => exact hB.trans (HB3.out.mono (by omega))
                  case aS => omega
                  case aL => have h9 := HLEN.out; (try simp only [List.length_take] at h9 ⊢); omega
                  intro v1 w9 ho hb hg hat
                  have HO9 := Lib.hid ho
                  clear ho hg hat
                  clear z03 z13 z23 zf3
                  go_wp2_with fail
                  go_roundw
                  case rel => exact ⟨q + 1, by go_num, by omega, by omega, (by rw [HNX.out, HY.out]; exact HO9.out), hb⟩
                  case measure => simp [intOf]; omega
                · by_cases k6 : 1000000 < p
                  · have hp0 := modV_bd (x := p) (n := 1000001) (by omega) (by omega)
                    have hpp : tameP ⟨f, t, p⟩ = modV p 1000001 := by unfold tameP; rw [if_pos (Or.inr k6)]
                    have HPP := Lib.hid hpp
                    have HMP := Lib.hid (fun w => mod_c p 1000001 w (by omega) (by omega))
                    clear hp0 hpp
                    have z02 : W2.cell? ⟨wr.heap.size, 0, none⟩ = some (.int .i64 (mf)) := by simp [World.cell?, HG2.out]
                    have z12 : W2.cell? ⟨wr.heap.size, 1, none⟩ = some (.int .i64 (mf + 1 + mt)) := by simp [World.cell?, HG2.out]
                    have z22 : W2.cell? ⟨wr.heap.size, 2, none⟩ = some (.int .i64 (p)) := by simp [World.cell?, HG2.out]
                    have zf2 : ∀ k, W2.frozen? ⟨wr.heap.size, k, none⟩ = false := fun k => by simp [World.frozen?, HG2.out]
                    go_wp2_with fail
                    refine (HMP.out _).mono ?_
                    rintro e w5 ⟨rfl, n5, rfl⟩
                    go_upto_region 11 with fail
                    obtain ⟨W3, hW3⟩ : ∃ W3, W3 = (W2.drewN n5).setCell ⟨wr.heap.size, 2, none⟩ (.int .i64 (modV p 1000001)) := ⟨_, rfl⟩
                    rw [← hW3]
                    have HG3 : Hid (W3.heap[wr.heap.size]? = some (.cells #[Value.int .i64 (mf), Value.int .i64 (mf + 1 + mt), Value.int .i64 (modV p 1000001)] 47 (0, 0))) := Lib.hid (by rw [hW3]; have := HG2.out; simp [World.setCell, Array.getElem?_modify, this])
                    have HB3 : Hid (Below wr.heap.size wr W3) := Lib.hid (by rw [hW3]; exact (HB2.out.trans ((pw_below_drewN (Below.refl _ _) n5).mono (by show wr.heap.size ≤ W2.heap.size; omega))).setCell (p := ⟨wr.heap.size, 2, none⟩) (Nat.le_refl _) _)
                    clear z02 z12 z22 zf2
                    clear hW3
                    have z03 : W3.cell? ⟨wr.heap.size, 0, none⟩ = some (.int .i64 (mf)) := by simp [World.cell?, HG3.out]
                    have z13 : W3.cell? ⟨wr.heap.size, 1, none⟩ = some (.int .i64 (mf + 1 + mt)) := by simp [World.cell?, HG3.out]
                    have z23 : W3.cell? ⟨wr.heap.size, 2, none⟩ = some (.int .i64 (modV p 1000001)) := by simp [World.cell?, HG3.out]
                    have zf3 : ∀ k, W3.frozen? ⟨wr.heap.size, k, none⟩ = false := fun k => by simp [World.frozen?, HG3.out]
                    have hy : tame1 (n : Int) ⟨f, t, p⟩ = ⟨mf, mf + 1 + mt, modV p 1000001⟩ := by
                      show (⟨tameF ⟨f, t, p⟩ n, tameT ⟨f, t, p⟩ n, tameP ⟨f, t, p⟩⟩ : S47) = _
                      rw [HFT.out, HTT.out, HPP.out]
                    have HY := Lib.hid hy
                    have hsW := HB3.out.size
                    have hOW := Lib.hid (Kd.R_below HO.out HB3.out)
                    clear hy
                    try clear hs0
                    try clear hs1
                    try clear hs2
                    go_wp2_with (at_builtin; refine Kd.R_append k47 (w0 := w) w.heap.size rfl (.tmp 70) (.tmp 72) 22 47 (.agg #[(.int .i64 0), (.int .i64 0), (.int .i64 0)]) 24 rfl Try.underlying22 info47 rfl (by decide) (by omega) u7 (M.take q) (⟨mf, mf + 1 + mt, modV p 1000001⟩ : S47) [.int .i64 (mf), .int .i64 (mf + 1 + mt), .int .i64 (modV p 1000001)] (fun _ => True) (fun _ => False) rfl rfl ?aP (fun _ hk => hk.elim) (fun _ _ => trivial) ?aO ?aB ?aS ?aL ?_)
                    case aP => exact k47_mkM _ _ _ (⟨mf, mf + 1 + mt, modV p 1000001⟩ : S47)
                    case aO => exact hOW.out
                    case aB => exact hB.trans (HB3.out.mono (by omega))
                    case aS => omega
                    case aL => have h9 := HLEN.out; (try simp only [List.length_take] at h9 ⊢); omega
                    intro v1 w9 ho hb hg hat
                    have HO9 := Lib.hid ho
                    clear ho hg hat
                    clear z03 z13 z23 zf3
                    go_wp2_with fail
                    go_roundw
                    case rel => exact ⟨q + 1, by go_num, by omega, by omega, (by rw [HNX.out, HY.out]; exact HO9.out), hb⟩
                    case measure => simp [intOf]; omega
                  · have hpp : tameP ⟨f, t, p⟩ = p := by unfold tameP; exact if_neg (show ¬ (p < 0 ∨ 1000000 < p) by omega)
                    have HPP := Lib.hid hpp
                    clear hpp
                    have z02 : W2.cell? ⟨wr.heap.size, 0, none⟩ = some (.int .i64 (mf)) := by simp [World.cell?, HG2.out]
                    have z12 : W2.cell? ⟨wr.heap.size, 1, none⟩ = some (.int .i64 (mf + 1 + mt)) := by simp [World.cell?, HG2.out]
                    have z22 : W2.cell? ⟨wr.heap.size, 2, none⟩ = some (.int .i64 (p)) := by simp [World.cell?, HG2.out]
                    have zf2 : ∀ k, W2.frozen? ⟨wr.heap.size, k, none⟩ = false := fun k => by simp [World.frozen?, HG2.out]
                    go_upto_region 11 with fail
                    clear z02 z12 z22 zf2
                    have z02 : W2.cell? ⟨wr.heap.size, 0, none⟩ = some (.int .i64 (mf)) := by simp [World.cell?, HG2.out]
                    have z12 : W2.cell? ⟨wr.heap.size, 1, none⟩ = some (.int .i64 (mf + 1 + mt)) := by simp [World.cell?, HG2.out]
                    have z22 : W2.cell? ⟨wr.heap.size, 2, none⟩ = some (.int .i64 (p)) := by simp [World.cell?, HG2.out]
                    have zf2 : ∀ k, W2.frozen? ⟨wr.heap.size, k, none⟩ = false := fun k => by simp [World.frozen?, HG2.out]
                    have hy : tame1 (n : Int) ⟨f, t, p⟩ = ⟨mf, mf + 1 + mt, p⟩ := by
                      show (⟨tameF ⟨f, t, p⟩ n, tameT ⟨f, t, p⟩ n, tameP ⟨f, t, p⟩⟩ : S47) = _
                      rw [HFT.out, HTT.out, HPP.out]
                    have HY := Lib.hid hy
                    have hsW := HB2.out.size
                    have hOW := Lib.hid (Kd.R_below HO.out HB2.out)
                    clear hy
                    try clear hs0
                    try clear hs1
                    try clear hs2
                    go_wp2_with (at_builtin; refine Kd.R_append k47 (w0 := w) w.heap.size rfl (.tmp 70) (.tmp 72) 22 47 (.agg #[(.int .i64 0), (.int .i64 0), (.int .i64 0)]) 24 rfl Try.underlying22 info47 rfl (by decide) (by omega) u7 (M.take q) (⟨mf, mf + 1 + mt, p⟩ : S47) [.int .i64 (mf), .int .i64 (mf + 1 + mt), .int .i64 (p)] (fun _ => True) (fun _ => False) rfl rfl ?aP (fun _ hk => hk.elim) (fun _ _ => trivial) ?aO ?aB ?aS ?aL ?_)
                    case aP => exact k47_mkM _ _ _ (⟨mf, mf + 1 + mt, p⟩ : S47)
                    case aO => exact hOW.out
                    case aB => exact hB.trans (HB2.out.mono (by omega))
                    case aS => omega
                    case aL => have h9 := HLEN.out; (try simp only [List.length_take] at h9 ⊢); omega
                    intro v1 w9 ho hb hg hat
                    have HO9 := Lib.hid ho
                    clear ho hg hat
                    clear z02 z12 z22 zf2
                    go_wp2_with fail
                    go_roundw
                    case rel => exact ⟨q + 1, by go_num, by omega, by omega, (by rw [HNX.out, HY.out]; exact HO9.out), hb⟩
                    case measure => simp [intOf]; omega
            · have hft : tameF ⟨f, t, p⟩ n = f := by unfold tameF; exact if_neg (show ¬ (f < 0 ∨ (n : Int) < t ∨ t ≤ f) by omega)
              have htt : tameT ⟨f, t, p⟩ n = t := by unfold tameT; exact if_neg (show ¬ (f < 0 ∨ (n : Int) < t ∨ t ≤ f) by omega)
              have HFT := Lib.hid hft
              have HTT := Lib.hid htt
              clear hft htt
              go_upto_region 9 with fail
              rw [← HW0.out]
              by_cases k5 : p < 0
              · have hp0 := modV_bd (x := p) (n := 1000001) (by omega) (by omega)
                have hpp : tameP ⟨f, t, p⟩ = modV p 1000001 := by unfold tameP; rw [if_pos (Or.inl k5)]
                have HPP := Lib.hid hpp
                have HMP := Lib.hid (fun w => mod_c p 1000001 w (by omega) (by omega))
                clear hp0 hpp
                have z00 : W0.cell? ⟨wr.heap.size, 0, none⟩ = some (.int .i64 (f)) := by simp [World.cell?, HG0.out]
                have z10 : W0.cell? ⟨wr.heap.size, 1, none⟩ = some (.int .i64 (t)) := by simp [World.cell?, HG0.out]
                have z20 : W0.cell? ⟨wr.heap.size, 2, none⟩ = some (.int .i64 (p)) := by simp [World.cell?, HG0.out]
                have zf0 : ∀ k, W0.frozen? ⟨wr.heap.size, k, none⟩ = false := fun k => by simp [World.frozen?, HG0.out]
                go_wp2_with fail
                refine (HMP.out _).mono ?_
                rintro e w5 ⟨rfl, n5, rfl⟩
                go_upto_region 11 with fail
                obtain ⟨W3, hW3⟩ : ∃ W3, W3 = (W0.drewN n5).setCell ⟨wr.heap.size, 2, none⟩ (.int .i64 (modV p 1000001)) := ⟨_, rfl⟩
                rw [← hW3]
                have HG3 : Hid (W3.heap[wr.heap.size]? = some (.cells #[Value.int .i64 (f), Value.int .i64 (t), Value.int .i64 (modV p 1000001)] 47 (0, 0))) := Lib.hid (by rw [hW3]; have := HG0.out; simp [World.setCell, Array.getElem?_modify, this])
                have HB3 : Hid (Below wr.heap.size wr W3) := Lib.hid (by rw [hW3]; exact (HBW0.out.trans ((pw_below_drewN (Below.refl _ _) n5).mono (by show wr.heap.size ≤ W0.heap.size; omega))).setCell (p := ⟨wr.heap.size, 2, none⟩) (Nat.le_refl _) _)
                clear z00 z10 z20 zf0
                clear hW3
                have z03 : W3.cell? ⟨wr.heap.size, 0, none⟩ = some (.int .i64 (f)) := by simp [World.cell?, HG3.out]
                have z13 : W3.cell? ⟨wr.heap.size, 1, none⟩ = some (.int .i64 (t)) := by simp [World.cell?, HG3.out]
                have z23 : W3.cell? ⟨wr.heap.size, 2, none⟩ = some (.int .i64 (modV p 1000001)) := by simp [World.cell?, HG3.out]
                have zf3 : ∀ k, W3.frozen? ⟨wr.heap.size, k, none⟩ = false := fun k => by simp [World.frozen?, HG3.out]
                have hy : tame1 (n : Int) ⟨f, t, p⟩ = ⟨f, t, modV p 1000001⟩ := by
                  show (⟨tameF ⟨f, t, p⟩ n, tameT ⟨f, t, p⟩ n, tameP ⟨f, t, p⟩⟩ : S47) = _
                  rw [HFT.out, HTT.out, HPP.out]
                have HY := Lib.hid hy
                have hsW := HB3.out.size
                have hOW := Lib.hid (Kd.R_below HO.out HB3.out)
                clear hy
                try clear hs0
                try clear hs1
                try clear hs2
                go_wp2_with (at_builtin; refine Kd.R_append k47 (w0 := w) w.heap.size rfl (.tmp 70) (.tmp 72) 22 47 (.agg #[(.int .i64 0), (.int .i64 0), (.int .i64 0)]) 24 rfl Try.underlying22 info47 rfl (by decide) (by omega) u7 (M.take q) (⟨f, t, modV p 1000001⟩ : S47) [.int .i64 (f), .int .i64 (t), .int .i64 (modV p 1000001)] (fun _ => True) (fun _ => False) rfl rfl ?aP (fun _ hk => hk.elim) (fun _ _ => trivial) ?aO ?aB ?aS ?aL ?_)
                case aP => exact k47_mkM _ _ _ (⟨f, t, modV p 1000001⟩ : S47)
                case aO => exact hOW.out
                case aB => exact hB.trans (HB3.out.mono (by omega))
                case aS => omega
                case aL => have h9 := HLEN.out; (try simp only [List.length_take] at h9 ⊢); omega
                intro v1 w9 ho hb hg hat
                have HO9 := Lib.hid ho
                clear ho hg hat
                clear z03 z13 z23 zf3
                go_wp2_with fail
                go_roundw
                case rel => exact ⟨q + 1, by go_num, by omega, by omega, (by rw [HNX.out, HY.out]; exact HO9.out), hb⟩
                case measure => simp [intOf]; omega
              · by_cases k6 : 1000000 < p
                · have hp0 := modV_bd (x := p) (n := 1000001) (by omega) (by omega)
                  have hpp : tameP ⟨f, t, p⟩ = modV p 1000001 := by unfold tameP; rw [if_pos (Or.inr k6)]
                  have HPP := Lib.hid hpp
                  have HMP := Lib.hid (fun w => mod_c p 1000001 w (by omega) (by omega))
                  clear hp0 hpp
                  have z00 : W0.cell? ⟨wr.heap.size, 0, none⟩ = some (.int .i64 (f)) := by simp [World.cell?, HG0.out]
                  have z10 : W0.cell? ⟨wr.heap.size, 1, none⟩ = some (.int .i64 (t)) := by simp [World.cell?, HG0.out]
                  have z20 : W0.cell? ⟨wr.heap.size, 2, none⟩ = some (.int .i64 (p)) := by simp [World.cell?, HG0.out]
                  have zf0 : ∀ k, W0.frozen? ⟨wr.heap.size, k, none⟩ = false := fun k => by simp [World.frozen?, HG0.out]
                  go_wp2_with fail
                  refine (HMP.out _).mono ?_
                  rintro e w5 ⟨rfl, n5, rfl⟩
                  go_upto_region 11 with fail
                  obtain ⟨W3, hW3⟩ : ∃ W3, W3 = (W0.drewN n5).setCell ⟨wr.heap.size, 2, none⟩ (.int .i64 (modV p 1000001)) := ⟨_, rfl⟩
                  rw [← hW3]
                  have HG3 : Hid (W3.heap[wr.heap.size]? = some (.cells #[Value.int .i64 (f), Value.int .i64 (t), Value.int .i64 (modV p 1000001)] 47 (0, 0))) := Lib.hid (by rw [hW3]; have := HG0.out; simp [World.setCell, Array.getElem?_modify, this])
                  have HB3 : Hid (Below wr.heap.size wr W3) := Lib.hid (by rw [hW3]; exact (HBW0.out.trans ((pw_below_drewN (Below.refl _ _) n5).mono (by show wr.heap.size ≤ W0.heap.size; omega))).setCell (p := ⟨wr.heap.size, 2, none⟩) (Nat.le_refl _) _)
                  clear z00 z10 z20 zf0
                  clear hW3
                  have z03 : W3.cell? ⟨wr.heap.size, 0, none⟩ = some (.int .i64 (f)) := by simp [World.cell?, HG3.out]
                  have z13 : W3.cell? ⟨wr.heap.size, 1, none⟩ = some (.int .i64 (t)) := by simp [World.cell?, HG3.out]
                  have z23 : W3.cell? ⟨wr.heap.size, 2, none⟩ = some (.int .i64 (modV p 1000001)) := by simp [World.cell?, HG3.out]
                  have zf3 : ∀ k, W3.frozen? ⟨wr.heap.size, k, none⟩ = false := fun k => by simp [World.frozen?, HG3.out]
                  have hy : tame1 (n : Int) ⟨f, t, p⟩ = ⟨f, t, modV p 1000001⟩ := by
                    show (⟨tameF ⟨f, t, p⟩ n, tameT ⟨f, t, p⟩ n, tameP ⟨f, t, p⟩⟩ : S47) = _
                    rw [HFT.out, HTT.out, HPP.out]
                  have HY := Lib.hid hy
                  have hsW := HB3.out.size
                  have hOW := Lib.hid (Kd.R_below HO.out HB3.out)
                  clear hy
                  try clear hs0
                  try clear hs1
                  try clear hs2
                  go_wp2_with (at_builtin; refine Kd.R_append k47 (w0 := w) w.heap.size rfl (.tmp 70) (.tmp 72) 22 47 (.agg #[(.int .i64 0), (.int .i64 0), (.int .i64 0)]) 24 rfl Try.underlying22 info47 rfl (by decide) (by omega) u7 (M.take q) (⟨f, t, modV p 1000001⟩ : S47) [.int .i64 (f), .int .i64 (t), .int .i64 (modV p 1000001)] (fun _ => True) (fun _ => False) rfl rfl ?aP (fun _ hk => hk.elim) (fun _ _ => trivial) ?aO ?aB ?aS ?aL ?_)
                  case aP => exact k47_mkM _ _ _ (⟨f, t, modV p 1000001⟩ : S47)
                  case aO => exact hOW.out
                  case aB => exact hB.trans (HB3.out.mono (by omega))
                  case aS => omega
                  case aL => have h9 := HLEN.out; (try simp only [List.length_take] at h9 ⊢); omega
                  intro v1 w9 ho hb hg hat
                  have HO9 := Lib.hid ho
                  clear ho hg hat
                  clear z03 z13 z23 zf3
                  go_wp2_with fail
                  go_roundw
                  case rel => exact ⟨q + 1, by go_num, by omega, by omega, (by rw [HNX.out, HY.out]; exact HO9.out), hb⟩
                  case measure => simp [intOf]; omega
                · have hpp : tameP ⟨f, t, p⟩ = p := by unfold tameP; exact if_neg (show ¬ (p < 0 ∨ 1000000 < p) by omega)
                  have HPP := Lib.hid hpp
                  clear hpp
                  have z00 : W0.cell? ⟨wr.heap.size, 0, none⟩ = some (.int .i64 (f)) := by simp [World.cell?, HG0.out]
                  have z10 : W0.cell? ⟨wr.heap.size, 1, none⟩ = some (.int .i64 (t)) := by simp [World.cell?, HG0.out]
                  have z20 : W0.cell? ⟨wr.heap.size, 2, none⟩ = some (.int .i64 (p)) := by simp [World.cell?, HG0.out]
                  have zf0 : ∀ k, W0.frozen? ⟨wr.heap.size, k, none⟩ = false := fun k => by simp [World.frozen?, HG0.out]
                  go_upto_region 11 with fail
                  clear z00 z10 z20 zf0
                  have z00 : W0.cell? ⟨wr.heap.size, 0, none⟩ = some (.int .i64 (f)) := by simp [World.cell?, HG0.out]
                  have z10 : W0.cell? ⟨wr.heap.size, 1, none⟩ = some (.int .i64 (t)) := by simp [World.cell?, HG0.out]
                  have z20 : W0.cell? ⟨wr.heap.size, 2, none⟩ = some (.int .i64 (p)) := by simp [World.cell?, HG0.out]
                  have zf0 : ∀ k, W0.frozen? ⟨wr.heap.size, k, none⟩ = false := fun k => by simp [World.frozen?, HG0.out]
                  have hy : tame1 (n : Int) ⟨f, t, p⟩ = ⟨f, t, p⟩ := by
                    show (⟨tameF ⟨f, t, p⟩ n, tameT ⟨f, t, p⟩ n, tameP ⟨f, t, p⟩⟩ : S47) = _
                    rw [HFT.out, HTT.out, HPP.out]
                  have HY := Lib.hid hy
                  have hsW := HBW0.out.size
                  have hOW := Lib.hid (Kd.R_below HO.out HBW0.out)
                  clear hy
                  try clear hs0
                  try clear hs1
                  try clear hs2
                  go_wp2_with (at_builtin; refine Kd.R_append k47 (w0 := w) w.heap.size rfl (.tmp 70) (.tmp 72) 22 47 (.agg #[(.int .i64 0), (.int .i64 0), (.int .i64 0)]) 24 rfl Try.underlying22 info47 rfl (by decide) (by omega) u7 (M.take q) (⟨f, t, p⟩ : S47) [.int .i64 (f), .int .i64 (t), .int .i64 (p)] (fun _ => True) (fun _ => False) rfl rfl ?aP (fun _ hk => hk.elim) (fun _ _ => trivial) ?aO ?aB ?aS ?aL ?_)
                  case aP => exact k47_mkM _ _ _ (⟨f, t, p⟩ : S47)
                  case aO => exact hOW.out
                  case aB => exact hB.trans (HBW0.out.mono (by omega))
                  case aS => omega
                  case aL => have h9 := HLEN.out; (try simp only [List.length_take] at h9 ⊢); omega
                  intro v1 w9 ho hb hg hat
                  have HO9 := Lib.hid ho
                  clear ho hg hat
                  clear z00 z10 z20 zf0
                  go_wp2_with fail
                  go_roundw
                  case rel => exact ⟨q + 1, by go_num, by omega, by omega, (by rw [HNX.out, HY.out]; exact HO9.out), hb⟩
                  case measure => simp [intOf]; omega
      · obtain rfl : q = most := by omega
        have hlm' : decide ((q : Int) < (q : Int)) = false := by simp
        have HO1 := HO
        have hlt' : (q : Int) < l.length := by omega
        clear hlm'
        go_wp2_with fail
        go_ret
        exact ⟨_, rfl, HO1.out, hB⟩
    · obtain rfl : q = l.length := by omega
      have e : M.take most = M.take l.length := by rw [List.take_of_length_le (by rw [HML.out]; exact hqm), List.take_of_length_le (by rw [HML.out]; exact Nat.le_refl _)]
      have HO1 : Hid (Kd.R k47 47 wr w.heap.size (fun _ => True) u7 (M.take most)) := Lib.hid (by rw [e]; exact HO.out)
      clear e
      go_wp2_with fail
      go_ret
      exact ⟨_, rfl, HO1.out, hB⟩
end Go.Proofs.Ytpjobcnfjpbaeaa.A

namespace Go.Proofs.Ytpjobcnfjpbaeaa.PA
open Go.RowKit Go.Proofs.YtpjobcnfjpbaeaaW.PrintWords Go.Proofs.YtpjobcnfjpbaeaaW.PrintLast Go.Proofs.YtpjobcnfjpbaeaaW.PrintMore
attribute [local go_sem] max2_int min2_int max_two min_two max_three min_three max_four min_four
set_option linter.unusedVariables false
set_option linter.unusedSimpArgs false
mutual
def turndownlaw08_tamed.l0 : Nat → List Int → List Int → Int → Option (List Int)
  | 0, _, _, _ => none
  | k + 1, x0, x3, x4 => if x4 < (x0.length : Int) then (turndownlaw08_tamed.j1 k x0 x3 x4 (decide (x4 < 60))) else (turndownlaw08_tamed.j1 k x0 x3 x4 false)
def turndownlaw08_tamed.j1 : Nat → List Int → List Int → Int → Bool → Option (List Int)
  | 0, _, _, _, _ => none
  | k + 1, x0, x3, x4, x13 => if x13 = true then (if 0 ≤ x4 then (if x4 < (x0.length : Int) then (if (rd x0 x4) < 0 then ((turndownlaw08_mod.f (rd x0 x4) 9).bind fun t223 => (if x3.length < 17592186044416 then (turndownlaw08_tamed.l0 k x0 (x3 ++ [t223]) (wrap64 (x4 + 1))) else (none))) else (if (rd x0 x4) > 8 then ((turndownlaw08_mod.f (rd x0 x4) 9).bind fun t227 => (if x3.length < 17592186044416 then (turndownlaw08_tamed.l0 k x0 (x3 ++ [t227]) (wrap64 (x4 + 1))) else (none))) else (if x3.length < 17592186044416 then (turndownlaw08_tamed.l0 k x0 (x3 ++ [rd x0 x4]) (wrap64 (x4 + 1))) else (none)))) else (none)) else (none)) else (if (x3.length : Int) = 0 then (if x3.length < 17592186044416 then (some (x3 ++ [1])) else (none)) else (some x3))
end
def turndownlaw08_tamed.f (k : Nat) (l0 : List Int) : Option (List Int) := turndownlaw08_tamed.l0 k l0 ([] : List Int) 0
theorem turndownlaw08_tamed.mono_l : ∀ k, (∀ y0 y1 y2, LeO (turndownlaw08_tamed.l0 k y0 y1 y2) (turndownlaw08_tamed.l0 (k + 1) y0 y1 y2)) ∧ (∀ y0 y1 y2 y3, LeO (turndownlaw08_tamed.j1 k y0 y1 y2 y3) (turndownlaw08_tamed.j1 (k + 1) y0 y1 y2 y3))
  | 0 => ⟨fun _ _ _ r h => by simp [turndownlaw08_tamed.l0] at h, fun _ _ _ _ r h => by simp [turndownlaw08_tamed.j1] at h⟩
  | k + 1 => by
    obtain ⟨ih0, ih1⟩ := turndownlaw08_tamed.mono_l k
    refine ⟨?_, ?_⟩
    · intro y0 y1 y2
      unfold turndownlaw08_tamed.l0
      repeat' first
      | (with_reducible exact ih0 _ _ _)
      | (with_reducible exact ih1 _ _ _ _)
      | (with_reducible exact LeO.refl _)
      | (with_reducible exact LeO.none _)
      | (with_reducible refine LeO.ite ?_ ?_)
      | (with_reducible refine LeO.bind ?_ (fun _ => ?_))
      | exact ih0 _ _ _
      | exact ih1 _ _ _ _
      | exact LeO.none _
      | refine LeO.ite ?_ ?_
      | refine LeO.bind ?_ (fun _ => ?_)
    · intro y0 y1 y2 y3
      unfold turndownlaw08_tamed.j1
      repeat' first
      | (with_reducible exact ih0 _ _ _)
      | (with_reducible exact ih1 _ _ _ _)
      | (with_reducible exact LeO.refl _)
      | (with_reducible exact LeO.none _)
      | (with_reducible refine LeO.ite ?_ ?_)
      | (with_reducible refine LeO.bind ?_ (fun _ => ?_))
      | exact ih0 _ _ _
      | exact ih1 _ _ _ _
      | exact LeO.none _
      | refine LeO.ite ?_ ?_
      | refine LeO.bind ?_ (fun _ => ?_)
theorem turndownlaw08_tamed.mono : ∀ a0 k, LeO (turndownlaw08_tamed.f k a0) (turndownlaw08_tamed.f (k + 1) a0) := by
  intro a0 k
  obtain ⟨ih0, ih1⟩ := turndownlaw08_tamed.mono_l k
  unfold turndownlaw08_tamed.f
  repeat' first
      | (with_reducible exact ih0 _ _ _)
      | (with_reducible exact ih1 _ _ _ _)
      | (with_reducible exact LeO.refl _)
      | (with_reducible exact LeO.none _)
      | (with_reducible refine LeO.ite ?_ ?_)
      | (with_reducible refine LeO.bind ?_ (fun _ => ?_))
      | exact ih0 _ _ _
      | exact ih1 _ _ _ _
      | exact LeO.none _
      | refine LeO.ite ?_ ?_
      | refine LeO.bind ?_ (fun _ => ?_)
set_option maxHeartbeats 8000000 in
set_option maxRecDepth 100000 in
theorem turndownlaw08_tamed.calls (k : Nat) (A0 : Option Addr) (c0 : Nat) (l0 : List Int) (r : List Int) (w : World) (hr0 : Kd.C (Kd.int .i64) w A0 l0.length l0) (hc0 : l0.length ≤ c0) (h : turndownlaw08_tamed.f k l0 = some r) :
    Calls Try.prog 23 #[.slice A0 l0.length c0] w fun e w' => ∃ v0_ : Value, e = .returned (v0_) ∧ Kd.R (Kd.int .i64) 3 w' w.heap.size (fun _ => True) v0_ r ∧ Below w.heap.size w w' := by
  have HR0 := Aside0.mk hr0
  have HC0 := Aside0.mk hc0
  clear hr0 hc0
  have HB := Aside0.mk (Below.refl w.heap.size w)
  have H : (turndownlaw08_tamed.l0 k l0 ([] : List Int) 0) = some r := h
  clear h
  have H' := Aside0.mk H
  clear H
  go_enter Try.func23, Try.ntmps23
  go_wp2
  go_loopg [3, 4] k (fun kq v3 v4 w' => ∃ (x3_1 : List Int) (x4_1 : Int), v4 = .int .i64 x4_1 ∧ Aside0 (turndownlaw08_tamed.l0 kq l0 x3_1 x4_1 = some r) ∧ Aside0 (kq ≤ k) ∧ Aside0 (Kd.R (Kd.int .i64) 3 w' w.heap.size (fun _ => True) v3 x3_1) ∧ Aside0 (Below w.heap.size w w'))
  case atStart => exact ⟨(([] : List Int)), (0), (by first | rfl | (simp; done) | (simp [*]; done)), H', ⟨Nat.le_refl _⟩, ⟨by first | exact Kd.R_nil _ _ _ _ _ | exact Kd.N_nil _ _ _ _ _ | exact Kd.V_nil _ _ _ _ _ | exact Kd.Q_nil _ _ _ _ _ | exact Kd.S_nil _ _ _ _ _⟩, ⟨by repeat (first | (with_reducible first | exact HB.out | apply below_alloc | apply pw_below_drewN | apply below_drew1) | exact HB.out)⟩⟩
  case round =>
    clear H'
    obtain ⟨x3_1, x4_1, rfl, HA, HK1, HO_3, HB⟩ := hrel
    cases gk with
    | zero => exact absurd HA.out (by simp [turndownlaw08_tamed.l0])
    | succ k1 =>
      have H := HA.out
      clear HA
      simp only [turndownlaw08_tamed.l0] at H
      have HC2 := Aside0.mk H
      clear H
      go_upto_region 3 with (fail)
      go_cut [13] (fun v13 wc => ∃ (kq : Nat) (x13_1 : Bool), v13 = .bool x13_1 ∧ Aside0 (turndownlaw08_tamed.j1 kq l0 x3_1 x4_1 x13_1 = some r) ∧ Aside0 (kq ≤ k1) ∧ Aside0 (Kd.R (Kd.int .i64) 3 wc w.heap.size (fun _ => True) u3 x3_1) ∧ Aside0 (Below w.heap.size w wc))
      case first =>
        have H := HC2.out
        clear HC2
        by_cases c3 : x4_1 < (l0.length : Int)
        · rw [if_pos c3] at H
          have c3b0 : decide (x4_1 < (l0.length : Int)) = true := decide_eq_true c3
          clear c3
          (first | rw [c3b0] | (simp only [i64_w, i32_w]; rw [c3b0]) | skip)
          have H' := Aside0.mk H
          clear H
          go_wp2
          go_meet
          case rel => exact ⟨_, (decide (x4_1 < 60)), (by first | rfl | (simp; done) | (simp [*]; done)), H', ⟨by have := HK1.out; first | omega | exact Nat.le_refl _⟩, ⟨by (with_reducible repeat (first | apply Kd.R_alloc | apply Kd.R_drewN | apply Kd.R_drew)); exact HO_3.out⟩, ⟨by repeat (first | (with_reducible first | exact HB.out | apply below_alloc | apply pw_below_drewN | apply below_drew1) | exact HB.out)⟩⟩
        · rw [if_neg c3] at H
          have c3b0 : decide (x4_1 < (l0.length : Int)) = false := decide_eq_false c3
          clear c3
          (first | rw [c3b0] | (simp only [i64_w, i32_w]; rw [c3b0]) | skip)
          have H' := Aside0.mk H
          clear H
          go_wp2
          go_meet
          case rel => exact ⟨_, (false), (by first | rfl | (simp; done) | (simp [*]; done)), H', ⟨by have := HK1.out; first | omega | exact Nat.le_refl _⟩, ⟨by (with_reducible repeat (first | apply Kd.R_alloc | apply Kd.R_drewN | apply Kd.R_drew)); exact HO_3.out⟩, ⟨by repeat (first | (with_reducible first | exact HB.out | apply below_alloc | apply pw_below_drewN | apply below_drew1) | exact HB.out)⟩⟩
      case rest =>
        clear HC2
        try clear c2
        try clear p2
        try clear c3
        try clear c3b0
        obtain ⟨kq, x13_1, rfl, HA, HJ1, HO_3, HB⟩ := hcut
        cases kq with
        | zero => exact absurd HA.out (by simp [turndownlaw08_tamed.j1])
        | succ kj1 =>
          have H := HA.out
          clear HA
          simp only [turndownlaw08_tamed.j1] at H
          by_cases c4 : x13_1 = true
          · subst c4
            have H1 : (if 0 ≤ x4_1 then (if x4_1 < (l0.length : Int) then (if (rd l0 x4_1) < 0 then ((turndownlaw08_mod.f (rd l0 x4_1) 9).bind fun t223 => (if x3_1.length < 17592186044416 then (turndownlaw08_tamed.l0 kj1 l0 (x3_1 ++ [t223]) (wrap64 (x4_1 + 1))) else (none))) else (if (rd l0 x4_1) > 8 then ((turndownlaw08_mod.f (rd l0 x4_1) 9).bind fun t227 => (if x3_1.length < 17592186044416 then (turndownlaw08_tamed.l0 kj1 l0 (x3_1 ++ [t227]) (wrap64 (x4_1 + 1))) else (none))) else (if x3_1.length < 17592186044416 then (turndownlaw08_tamed.l0 kj1 l0 (x3_1 ++ [rd l0 x4_1]) (wrap64 (x4_1 + 1))) else (none)))) else (none)) else (none)) = some r := by rw [if_pos rfl] at H; exact H
            clear H
            have H := H1
            clear H1
            by_cases c5 : 0 ≤ x4_1
            · rw [if_pos c5] at H
              have c5b0 : decide (0 ≤ x4_1) = true := decide_eq_true c5
              clear c5
              by_cases c6 : x4_1 < (l0.length : Int)
              · rw [if_pos c6] at H
                have c6b0 : decide (x4_1 < (l0.length : Int)) = true := decide_eq_true c6
                clear c6
                by_cases c7 : (rd l0 x4_1) < 0
                · rw [if_pos c7] at H
                  have c7b0 : decide ((rd l0 x4_1) < 0) = true := decide_eq_true c7
                  clear c7
                  replace H := Option.bind_eq_some_iff.mp H
                  obtain ⟨t223, A80, H⟩ := H
                  replace H : (if x3_1.length < 17592186044416 then (turndownlaw08_tamed.l0 kj1 l0 (x3_1 ++ [t223]) (wrap64 (x4_1 + 1))) else (none)) = some r := H
                  have A8 := Aside0.mk A80
                  clear A80
                  by_cases c9 : x3_1.length < 17592186044416
                  · rw [if_pos c9] at H
                    have LMc9 := Aside0.mk c9
                    clear c9
                    obtain ⟨y224, hy224⟩ : ∃ y_ : List Int, y_ = (x3_1 ++ [t223]) := ⟨_, rfl⟩
                    replace H : (turndownlaw08_tamed.l0 kj1 l0 y224 (wrap64 (x4_1 + 1))) = some r := by first | (rw [hy224]; with_reducible exact H) | (have H2_ := (Option.bind_some _ _).symm.trans H; rw [hy224]; with_reducible exact H2_) | (have H2_ := (Option.bind_some _ _).symm.trans H; with_reducible exact H2_) | with_reducible exact H | (rw [hy224]; exact H) | exact H
                    have Ny224 := Aside0.mk hy224
                    clear hy224
                    have H' := Aside0.mk H
                    clear H
                    have p222 : 0 ≤ (x4_1 : Int) := of_decide_eq_true (by first | (with_reducible assumption) | assumption)
                    have q222 : x4_1 < (l0.length : Int) := of_decide_eq_true (by first | (with_reducible assumption) | assumption)
                    obtain ⟨ad222, e222, hx222_0⟩ := Kd.at_int HR0.out x4_1 p222 q222
                    cases e222
                    replace hx222_0 := (HB.out.cell (World.block_lt_of_cell? w _ hx222_0)).trans hx222_0
                    replace p222 := eq_true p222
                    replace q222 := eq_true q222
                    go_wp2_with (first | ((with_reducible refine gate_callee (f := 26) rfl ?_); refine goesL_ (some 27) rfl rfl Try.func26 (by kernel_rfl) rfl #[.int .i64 (rd l0 x4_1), .int .i64 9] rfl (by (try simp only [List.map_toArray, List.map_cons, List.map_nil]); first | done | rfl | (simp only [List.length_drop, List.length_take]; rfl)) ?_; (with_reducible refine (turndownlaw08_mod.calls (rd l0 x4_1) 9 t223 _ A8.out).mono ?_); rintro e w' ⟨rfl, ⟨nd, rfl⟩⟩; refine ⟨_, rfl, ?_⟩) | ((with_reducible refine gate_builtin (b := .append) (xs := #[.tmp 28, .tmp 30]) rfl ?_); at_builtin; refine Kd.R_append (Kd.int .i64) (w0 := w) w.heap.size rfl (.tmp 28) (.tmp 30) 23 3 (.int .i64 0) 8 rfl Try.underlying23 info3 rfl (by decide) (by omega) u3 x3_1 t223 [.int .i64 t223] (fun _ => True) (fun _ => False) rfl rfl ?aP (fun _ hk => hk.elim) ?aF ?aO ?aB ?aS ?aL ?_; (case aP => exact rfl); (case aB => exact (by repeat (first | (with_reducible first | exact HB.out | apply below_alloc | apply pw_below_drewN | apply below_drew1) | exact HB.out))); (case aF => exact (fun _ _ => trivial)); (case aO => exact (by (with_reducible repeat (first | apply Kd.R_alloc | apply Kd.R_drewN | apply Kd.R_drew)); exact HO_3.out)); (case aS => exact (below_size (by repeat (first | (with_reducible first | exact HB.out | apply below_alloc | apply pw_below_drewN | apply below_drew1) | exact HB.out)))); (case aL => have := LMc9.out; omega); intro v225 w10 ho hb hg hat; rw [← Ny224.out] at ho; have n0_ := Aside0.mk (hb); have n1_ := Aside0.mk (ho); clear HB; clear HO_3; have HB := n0_; have HO226 := n1_; clear n0_ n1_; clear ho hb hg hat))
                    go_roundg kj1
                    case measure => have := HK1.out; have := HJ1.out; omega
                    case rel => exact ⟨(y224), (wrap64 (x4_1 + 1)), (by first | rfl | (simp; done) | (simp [*]; done)), H', ⟨by have := HK1.out; have := HJ1.out; omega⟩, ⟨by (with_reducible repeat (first | apply Kd.R_alloc | apply Kd.R_drewN | apply Kd.R_drew)); exact HO226.out⟩, ⟨by repeat (first | (with_reducible first | exact HB.out | apply below_alloc | apply pw_below_drewN | apply below_drew1) | exact HB.out)⟩⟩
                  · rw [if_neg c9] at H
                    exact absurd H (by simp)
                · rw [if_neg c7] at H
                  have c7b0 : decide ((rd l0 x4_1) < 0) = false := decide_eq_false c7
                  clear c7
                  by_cases c11 : (rd l0 x4_1) > 8
                  · rw [if_pos c11] at H
                    have c11b0 : decide (8 < (rd l0 x4_1)) = true := decide_eq_true c11
                    clear c11
                    replace H := Option.bind_eq_some_iff.mp H
                    obtain ⟨t227, A120, H⟩ := H
                    replace H : (if x3_1.length < 17592186044416 then (turndownlaw08_tamed.l0 kj1 l0 (x3_1 ++ [t227]) (wrap64 (x4_1 + 1))) else (none)) = some r := H
                    have A12 := Aside0.mk A120
                    clear A120
                    by_cases c13 : x3_1.length < 17592186044416
                    · rw [if_pos c13] at H
                      have LMc13 := Aside0.mk c13
                      clear c13
                      obtain ⟨y228, hy228⟩ : ∃ y_ : List Int, y_ = (x3_1 ++ [t227]) := ⟨_, rfl⟩
                      replace H : (turndownlaw08_tamed.l0 kj1 l0 y228 (wrap64 (x4_1 + 1))) = some r := by first | (rw [hy228]; with_reducible exact H) | (have H2_ := (Option.bind_some _ _).symm.trans H; rw [hy228]; with_reducible exact H2_) | (have H2_ := (Option.bind_some _ _).symm.trans H; with_reducible exact H2_) | with_reducible exact H | (rw [hy228]; exact H) | exact H
                      have Ny228 := Aside0.mk hy228
                      clear hy228
                      have H' := Aside0.mk H
                      clear H
                      have p222 : 0 ≤ (x4_1 : Int) := of_decide_eq_true (by first | (with_reducible assumption) | assumption)
                      have q222 : x4_1 < (l0.length : Int) := of_decide_eq_true (by first | (with_reducible assumption) | assumption)
                      obtain ⟨ad222, e222, hx222_0⟩ := Kd.at_int HR0.out x4_1 p222 q222
                      cases e222
                      replace hx222_0 := (HB.out.cell (World.block_lt_of_cell? w _ hx222_0)).trans hx222_0
                      replace p222 := eq_true p222
                      replace q222 := eq_true q222
                      go_wp2_with (first | ((with_reducible refine gate_callee (f := 26) rfl ?_); refine goesL_ (some 27) rfl rfl Try.func26 (by kernel_rfl) rfl #[.int .i64 (rd l0 x4_1), .int .i64 9] rfl (by (try simp only [List.map_toArray, List.map_cons, List.map_nil]); first | done | rfl | (simp only [List.length_drop, List.length_take]; rfl)) ?_; (with_reducible refine (turndownlaw08_mod.calls (rd l0 x4_1) 9 t227 _ A12.out).mono ?_); rintro e w' ⟨rfl, ⟨nd, rfl⟩⟩; refine ⟨_, rfl, ?_⟩) | ((with_reducible refine gate_builtin (b := .append) (xs := #[.tmp 28, .tmp 30]) rfl ?_); at_builtin; refine Kd.R_append (Kd.int .i64) (w0 := w) w.heap.size rfl (.tmp 28) (.tmp 30) 23 3 (.int .i64 0) 8 rfl Try.underlying23 info3 rfl (by decide) (by omega) u3 x3_1 t227 [.int .i64 t227] (fun _ => True) (fun _ => False) rfl rfl ?aP (fun _ hk => hk.elim) ?aF ?aO ?aB ?aS ?aL ?_; (case aP => exact rfl); (case aB => exact (by repeat (first | (with_reducible first | exact HB.out | apply below_alloc | apply pw_below_drewN | apply below_drew1) | exact HB.out))); (case aF => exact (fun _ _ => trivial)); (case aO => exact (by (with_reducible repeat (first | apply Kd.R_alloc | apply Kd.R_drewN | apply Kd.R_drew)); exact HO_3.out)); (case aS => exact (below_size (by repeat (first | (with_reducible first | exact HB.out | apply below_alloc | apply pw_below_drewN | apply below_drew1) | exact HB.out)))); (case aL => have := LMc13.out; omega); intro v229 w14 ho hb hg hat; rw [← Ny228.out] at ho; have n0_ := Aside0.mk (hb); have n1_ := Aside0.mk (ho); clear HB; clear HO_3; have HB := n0_; have HO230 := n1_; clear n0_ n1_; clear ho hb hg hat))
                      go_roundg kj1
                      case measure => have := HK1.out; have := HJ1.out; omega
                      case rel => exact ⟨(y228), (wrap64 (x4_1 + 1)), (by first | rfl | (simp; done) | (simp [*]; done)), H', ⟨by have := HK1.out; have := HJ1.out; omega⟩, ⟨by (with_reducible repeat (first | apply Kd.R_alloc | apply Kd.R_drewN | apply Kd.R_drew)); exact HO230.out⟩, ⟨by repeat (first | (with_reducible first | exact HB.out | apply below_alloc | apply pw_below_drewN | apply below_drew1) | exact HB.out)⟩⟩
                    · rw [if_neg c13] at H
                      exact absurd H (by simp)
                  · rw [if_neg c11] at H
                    have c11b0 : decide (8 < (rd l0 x4_1)) = false := decide_eq_false c11
                    clear c11
                    by_cases c15 : x3_1.length < 17592186044416
                    · rw [if_pos c15] at H
                      have LMc15 := Aside0.mk c15
                      clear c15
                      obtain ⟨y231, hy231⟩ : ∃ y_ : List Int, y_ = (x3_1 ++ [rd l0 x4_1]) := ⟨_, rfl⟩
                      replace H : (turndownlaw08_tamed.l0 kj1 l0 y231 (wrap64 (x4_1 + 1))) = some r := by first | (rw [hy231]; with_reducible exact H) | (have H2_ := (Option.bind_some _ _).symm.trans H; rw [hy231]; with_reducible exact H2_) | (have H2_ := (Option.bind_some _ _).symm.trans H; with_reducible exact H2_) | with_reducible exact H | (rw [hy231]; exact H) | exact H
                      have Ny231 := Aside0.mk hy231
                      clear hy231
                      have H' := Aside0.mk H
                      clear H
                      have p222 : 0 ≤ (x4_1 : Int) := of_decide_eq_true (by first | (with_reducible assumption) | assumption)
                      have q222 : x4_1 < (l0.length : Int) := of_decide_eq_true (by first | (with_reducible assumption) | assumption)
                      obtain ⟨ad222, e222, hx222_0⟩ := Kd.at_int HR0.out x4_1 p222 q222
                      cases e222
                      replace hx222_0 := (HB.out.cell (World.block_lt_of_cell? w _ hx222_0)).trans hx222_0
                      replace p222 := eq_true p222
                      replace q222 := eq_true q222
                      go_wp2_with (first | ((with_reducible refine gate_builtin (b := .append) (xs := #[.tmp 28, .tmp 30]) rfl ?_); at_builtin; refine Kd.R_append (Kd.int .i64) (w0 := w) w.heap.size rfl (.tmp 28) (.tmp 30) 23 3 (.int .i64 0) 8 rfl Try.underlying23 info3 rfl (by decide) (by omega) u3 x3_1 (rd l0 x4_1) [.int .i64 (rd l0 x4_1)] (fun _ => True) (fun _ => False) rfl rfl ?aP (fun _ hk => hk.elim) ?aF ?aO ?aB ?aS ?aL ?_; (case aP => exact rfl); (case aB => exact (by repeat (first | (with_reducible first | exact HB.out | apply below_alloc | apply pw_below_drewN | apply below_drew1) | exact HB.out))); (case aF => exact (fun _ _ => trivial)); (case aO => exact (by (with_reducible repeat (first | apply Kd.R_alloc | apply Kd.R_drewN | apply Kd.R_drew)); exact HO_3.out)); (case aS => exact (below_size (by repeat (first | (with_reducible first | exact HB.out | apply below_alloc | apply pw_below_drewN | apply below_drew1) | exact HB.out)))); (case aL => have := LMc15.out; omega); intro v232 w16 ho hb hg hat; rw [← Ny231.out] at ho; have n0_ := Aside0.mk (hb); have n1_ := Aside0.mk (ho); clear HB; clear HO_3; have HB := n0_; have HO233 := n1_; clear n0_ n1_; clear ho hb hg hat))
                      go_roundg kj1
                      case measure => have := HK1.out; have := HJ1.out; omega
                      case rel => exact ⟨(y231), (wrap64 (x4_1 + 1)), (by first | rfl | (simp; done) | (simp [*]; done)), H', ⟨by have := HK1.out; have := HJ1.out; omega⟩, ⟨by (with_reducible repeat (first | apply Kd.R_alloc | apply Kd.R_drewN | apply Kd.R_drew)); exact HO233.out⟩, ⟨by repeat (first | (with_reducible first | exact HB.out | apply below_alloc | apply pw_below_drewN | apply below_drew1) | exact HB.out)⟩⟩
                    · rw [if_neg c15] at H
                      exact absurd H (by simp)
              · rw [if_neg c6] at H
                exact absurd H (by simp)
            · rw [if_neg c5] at H
              exact absurd H (by simp)
          · replace c4 := Bool.eq_false_iff.mpr c4
            subst c4
            have H1 : (if (x3_1.length : Int) = 0 then (if x3_1.length < 17592186044416 then (some (x3_1 ++ [1])) else (none)) else (some x3_1)) = some r := by rw [if_neg (show ¬ (false = true) by decide)] at H; exact H
            clear H
            have H := H1
            clear H1
            by_cases c17 : (x3_1.length : Int) = 0
            · rw [if_pos c17] at H
              have c17b0 : ((x3_1.length : Int) == 0) = true := beq_iff_eq.mpr c17
              have c17b1 : ((x3_1.length : Int) != 0) = false := bne_eq_false_iff_eq.mpr c17
              clear c17
              by_cases c18 : x3_1.length < 17592186044416
              · rw [if_pos c18] at H
                have LMc18 := Aside0.mk c18
                clear c18
                obtain ⟨y234, hy234⟩ : ∃ y_ : List Int, y_ = (x3_1 ++ [1]) := ⟨_, rfl⟩
                replace H : (some y234) = some r := by first | (rw [hy234]; with_reducible exact H) | (have H2_ := (Option.bind_some _ _).symm.trans H; rw [hy234]; with_reducible exact H2_) | (have H2_ := (Option.bind_some _ _).symm.trans H; with_reducible exact H2_) | with_reducible exact H | (rw [hy234]; exact H) | exact H
                have Ny234 := Aside0.mk hy234
                clear hy234
                obtain rfl := Option.some.inj H
                obtain ⟨Ao19, co19, eo19⟩ := Kd.R_slice HO_3.out
                subst eo19
                go_wp2_with (first | ((with_reducible refine gate_builtin (b := .append) (xs := #[.tmp 35, .tmp 36]) rfl ?_); at_builtin; refine Kd.R_append (Kd.int .i64) (w0 := w) w.heap.size rfl (.tmp 35) (.tmp 36) 23 3 (.int .i64 0) 8 rfl Try.underlying23 info3 rfl (by decide) (by omega) (.slice Ao19 x3_1.length co19) x3_1 1 [.int .i64 1] (fun _ => True) (fun _ => False) rfl rfl ?aP (fun _ hk => hk.elim) ?aF ?aO ?aB ?aS ?aL ?_; (case aP => exact rfl); (case aB => exact (by repeat (first | (with_reducible first | exact HB.out | apply below_alloc | apply pw_below_drewN | apply below_drew1) | exact HB.out))); (case aF => exact (fun _ _ => trivial)); (case aO => exact (by (with_reducible repeat (first | apply Kd.R_alloc | apply Kd.R_drewN | apply Kd.R_drew)); exact HO_3.out)); (case aS => exact (below_size (by repeat (first | (with_reducible first | exact HB.out | apply below_alloc | apply pw_below_drewN | apply below_drew1) | exact HB.out)))); (case aL => have := LMc18.out; omega); intro v235 w20 ho hb hg hat; rw [← Ny234.out] at ho; have n0_ := Aside0.mk (hb); have n1_ := Aside0.mk (ho); clear HB; clear HO_3; have HB := n0_; have HO236 := n1_; clear n0_ n1_; clear ho hb hg hat))
                go_ret
                exact ⟨_, by first | rfl | (simp [errW_none, errW_some] <;> rfl) | (simp [*, errW_none, errW_some] <;> rfl), by (with_reducible repeat (first | apply Kd.R_alloc | apply Kd.R_drewN | apply Kd.R_drew)); exact HO236.out, by repeat (first | (with_reducible first | exact HB.out | apply below_alloc | apply pw_below_drewN | apply below_drew1) | exact HB.out)⟩
              · rw [if_neg c18] at H
                exact absurd H (by simp)
            · rw [if_neg c17] at H
              have c17b0 : ((x3_1.length : Int) == 0) = false := beq_eq_false_iff_ne.mpr c17
              have c17b1 : ((x3_1.length : Int) != 0) = true := bne_iff_ne.mpr c17
              have c17b2 : ¬ (x3_1 = []) := fun h_ => c17 (by rw [h_]; rfl)
              obtain rfl := Option.some.inj H
              obtain ⟨Ao21, co21, eo21⟩ := Kd.R_slice HO_3.out
              subst eo21
              go_wp2
              go_ret
              exact ⟨_, by first | rfl | (simp [errW_none, errW_some] <;> rfl) | (simp [*, errW_none, errW_some] <;> rfl), by (with_reducible repeat (first | apply Kd.R_alloc | apply Kd.R_drewN | apply Kd.R_drew)); exact HO_3.out, by repeat (first | (with_reducible first | exact HB.out | apply below_alloc | apply pw_below_drewN | apply below_drew1) | exact HB.out)⟩
end Go.Proofs.Ytpjobcnfjpbaeaa.PA

namespace Go.Proofs.Ytpjobcnfjpbaeaa.A
open Go.RowKit Go.Proofs.YtpjobcnfjpbaeaaW.PrintWords Go.Proofs.YtpjobcnfjpbaeaaW.PrintLast Go.Proofs.YtpjobcnfjpbaeaaW.PrintMore
open Go.Proofs.Ytpjobcnfjpbaeaa.PA Go.Proofs.Ytpjobcnfjpbaeaa.M
structure RoomsOK (r : List Int) : Prop where
  nights : 1 ≤ r.length ∧ r.length ≤ 60
  room : ∀ x ∈ r, 0 ≤ x ∧ x ≤ 8
theorem mod_f (x : Int) : turndownlaw08_mod.f x 9 = some (modV x 9) := (modV_bd (by omega) (by omega)).2.2
theorem snoc9 {out : List Int} {x : Int} (h : ∀ y ∈ out, 0 ≤ y ∧ y ≤ 8) (hx : 0 ≤ x ∧ x ≤ 8) : ∀ y ∈ out ++ [x], 0 ≤ y ∧ y ≤ 8 := by
  intro y hy
  rcases List.mem_append.1 hy with h1 | h1
  · exact h y h1
  · rw [List.mem_singleton.1 h1]; exact hx
theorem tamed_l0 (l : List Int) : ∀ d i (out : List Int), i + d = min l.length 60 → out.length = i → (∀ x ∈ out, 0 ≤ x ∧ x ≤ 8) → ∃ r, Ev (fun k => turndownlaw08_tamed.l0 k l out (i : Int)) r ∧ RoomsOK r := by
  intro d
  induction d with
  | zero =>
    intro i out hi hlen hx
    have hj : Ev (fun k => turndownlaw08_tamed.l0 k l out (i : Int)) (if (out.length : Int) = 0 then out ++ [1] else out) := by
      refine Ev.step (f := fun k => turndownlaw08_tamed.j1 k l out (i : Int) false) (fun k => ?_) (Ev.step (f := fun _ => some (if (out.length : Int) = 0 then out ++ [1] else out)) (fun k => ?_) (Ev.now _))
      · rw [turndownlaw08_tamed.l0]
        by_cases h : (i : Int) < (l.length : Int)
        · rw [if_pos h]
          have e : decide ((i : Int) < 60) = false := by simp only [decide_eq_false_iff_not]; omega
          rw [e]
        · rw [if_neg h]
      · rw [turndownlaw08_tamed.j1, if_neg (by simp)]
        by_cases h : (out.length : Int) = 0
        · rw [if_pos h, if_pos h, if_pos (by omega)]
        · rw [if_neg h, if_neg h]
    refine ⟨_, hj, ?_⟩
    by_cases h : (out.length : Int) = 0
    · rw [if_pos h]
      exact ⟨by rw [List.length_append, List.length_singleton]; omega, snoc9 hx (by omega)⟩
    · rw [if_neg h]
      exact ⟨by omega, hx⟩
  | succ d ih =>
    intro i out hi hlen hx
    obtain ⟨y, hy⟩ : ∃ y, y = if rd l (i : Int) < 0 then modV (rd l (i : Int)) 9 else if rd l (i : Int) > 8 then modV (rd l (i : Int)) 9 else rd l (i : Int) := ⟨_, rfl⟩
    have hb := modV_bd (x := rd l (i : Int)) (n := 9) (by omega) (by omega)
    have hyb : 0 ≤ y ∧ y ≤ 8 := by
      rw [hy]
      have := hb.1
      have := hb.2.1
      split
      · omega
      · split <;> omega
    obtain ⟨r, h1, h2⟩ := ih (i + 1) (out ++ [y]) (by omega) (by rw [List.length_append, List.length_singleton]; omega) (snoc9 hx hyb)
    refine ⟨r, ?_, h2⟩
    have hw := wrap_succ (show i < 61 by omega) (by omega)
    refine Ev.step (f := fun k => turndownlaw08_tamed.j1 k l out (i : Int) true) (fun k => ?_) (Ev.step (f := fun k => turndownlaw08_tamed.l0 k l (out ++ [y]) ((i + 1 : Nat) : Int)) (fun k => ?_) h1)
    · rw [turndownlaw08_tamed.l0, if_pos (by omega)]
      have e : decide ((i : Int) < 60) = true := by simp only [decide_eq_true_eq]; omega
      rw [e]
    · rw [turndownlaw08_tamed.j1, if_pos rfl, if_pos (by omega), if_pos (by omega), hw, hy]
      by_cases c1 : rd l (i : Int) < 0
      · rw [if_pos c1, if_pos c1, mod_f, Option.bind_some, if_pos (by omega)]
      · rw [if_neg c1, if_neg c1]
        by_cases c2 : rd l (i : Int) > 8
        · rw [if_pos c2, if_pos c2, mod_f, Option.bind_some, if_pos (by omega)]
        · rw [if_neg c2, if_neg c2, if_pos (by omega)]
theorem tamed_c (A : Option Addr) (c : Nat) (l : List Int) (w : World) (hr : Kd.C (Kd.int .i64) w A l.length l) (hc : l.length ≤ c) :
    ∃ r, RoomsOK r ∧ ∀ w', Below w.heap.size w w' → Calls Try.prog 23 #[.slice A l.length c] w' fun e w'' => ∃ v, e = .returned v ∧ Kd.R (Kd.int .i64) 3 w'' w'.heap.size (fun _ => True) v r ∧ Below w'.heap.size w' w'' := by
  obtain ⟨r, h1, h2⟩ := tamed_l0 l (min l.length 60) 0 [] (by omega) rfl (by simp)
  obtain ⟨k, hk⟩ := Ev.rounds h1
  exact ⟨r, h2, fun w' h => turndownlaw08_tamed.calls k A c l r w' (Kd.C_below hr h) hc hk⟩
theorem good_tame {r : List Int} (h : RoomsOK r) (l : List S47) {m : Nat} (hm : m ≤ 40) : Good ((l.take m).map (tame1 (r.length : Int))) r := by
  have hn := h.nights
  have key : ∀ x ∈ (l.take m).map (tame1 (r.length : Int)), 0 ≤ x.f0 ∧ x.f0 < x.f1 ∧ x.f1 ≤ (r.length : Int) ∧ 0 ≤ x.f2 ∧ x.f2 ≤ 1000000 := by
    intro x hx
    obtain ⟨y, _, rfl⟩ := List.mem_map.1 hx
    exact tame1_ok (by omega) (by omega) y
  refine ⟨by rw [List.length_map, List.length_take]; omega, by omega, h.room, fun x hx => ?_, fun x hx => ?_⟩
  · have := key x hx; omega
  · have := key x hx; omega
theorem revenue_c (A : Option Addr) (c : Nat) (l : List S47) (A1 : Option Addr) (c1 : Nat) (r : List Int) (w : World) (h : Kd.C k47 w A l.length l) (hc : l.length ≤ c) (h1 : Kd.C (Kd.int .i64) w A1 r.length r) (hg : Good l r) :
    Calls Try.prog 25 #[.slice A l.length c, .slice A1 r.length c1] w fun e w' => (∃ v : Int, e = .returned (.int .i64 v) ∧ (inst l r).Opt v ∧ 0 ≤ v ∧ v ≤ 40000000) ∧ Below w.heap.size w w' := by
  obtain ⟨tk, pr, v, b2, b3, b4, b5, b6, b7, b8⟩ := Accept_yes A c l A1 c1 r w h hc h1 hg
  have HA := Lib.hid b8
  have HV := Lib.hid (show (inst l r).Opt v ∧ 0 ≤ v ∧ v ≤ 40000000 from ⟨b4, b5, b6⟩)
  clear b2 b3 b4 b5 b6 b7 b8 h h1 hg
  go_enter Try.func25, Try.ntmps25
  go_wp2_with fail
  refine HA.out.mono ?_
  rintro e w3 ⟨v1, v2, rfl, hO1, hO2, hO3, hB⟩
  have hsz := hB.size
  obtain ⟨X1, y1, rfl⟩ := own_slice hO1
  obtain ⟨X2, y2, rfl⟩ := own_slice hO2
  have HB := Lib.hid hB
  clear hO1 hO2 hO3 hB
  go_wp2_with fail
  go_ret
  refine ⟨⟨v, rfl, HV.out⟩, HB.out.alloc hsz _⟩
end Go.Proofs.Ytpjobcnfjpbaeaa.A

namespace Go.Proofs.Ytpjobcnfjpbaeaa.M
open Go.RowKit Go.Proofs.YtpjobcnfjpbaeaaW.PrintWords Go.Proofs.YtpjobcnfjpbaeaaW.PrintLast Go.Proofs.YtpjobcnfjpbaeaaW.PrintMore
open Go.Proofs.Ytpjobcnfjpbaeaa.PA Go.Proofs.Ytpjobcnfjpbaeaa.A
structure Ext (I I' : Inst) (p : Int) (c : Nat → Int) : Prop where
  L : I'.L = I.L + 1
  n : I'.n = I.n
  R : ∀ k, k < I.n → I'.R k = I.R k
  cov : ∀ i k, i < I.L → I'.cov i k = I.cov i k
  pr : ∀ i, i < I.L → I'.p i = I.p i
  covL : ∀ k, I'.cov I.L k = c k
  pL : I'.p I.L = p
theorem Ext.rev {I I' : Inst} {p : Int} {c : Nat → Int} (h : Ext I I' p c) (X : Nat → Int) : I'.Rev X = I.Rev X + X I.L * p := by
  unfold Inst.Rev
  rw [h.L, sumTo, h.pL, sumTo_congr (g := fun i => X i * I.p i) (fun i hi => by rw [h.pr i hi])]
theorem Ext.sum {I I' : Inst} {p : Int} {c : Nat → Int} (h : Ext I I' p c) (X : Nat → Int) (k : Nat) : sumTo I'.L (fun i => X i * I'.cov i k) = sumTo I.L (fun i => X i * I.cov i k) + X I.L * c k := by
  rw [h.L, sumTo, h.covL, sumTo_congr (g := fun i => X i * I.cov i k) (fun i hi => by rw [h.cov i k hi])]
theorem Inst.cov01 (I : Inst) (i k : Nat) : I.cov i k = 0 ∨ I.cov i k = 1 := by unfold Inst.cov; split <;> simp
theorem Inst.Fit.used {I : Inst} {X : Nat → Int} (h : ∀ i, i < I.L → X i = 0 ∨ X i = 1) (k : Nat) : 0 ≤ sumTo I.L (fun i => X i * I.cov i k) := by
  refine sumTo_nonneg (fun i hi => ?_)
  rcases h i hi with e | e <;> rcases I.cov01 i k with e' | e' <;> rw [e, e'] <;> decide
theorem upd_rev {I : Inst} (X : Nat → Int) (y : Int) : I.Rev (upd X I.L y) = I.Rev X := by
  unfold Inst.Rev
  exact sumTo_congr (fun i hi => by rw [upd_ne (by omega)])
theorem upd_used {I : Inst} (X : Nat → Int) (y : Int) (k : Nat) : sumTo I.L (fun i => upd X I.L y i * I.cov i k) = sumTo I.L (fun i => X i * I.cov i k) := sumTo_congr (fun i hi => by rw [upd_ne (by omega)])
theorem Ext.one {I I' : Inst} {p : Int} {c : Nat → Int} (h : Ext I I' p c) {X : Nat → Int} (hX : ∀ i, i < I.L → X i = 0 ∨ X i = 1) {y : Int} (hy : y = 0 ∨ y = 1) : ∀ i, i < I'.L → upd X I.L y i = 0 ∨ upd X I.L y i = 1 := by
  intro i hi
  rw [h.L] at hi
  by_cases e : i = I.L
  · rw [e, upd_same]; exact hy
  · rw [upd_ne e]; exact hX i (by omega)
structure Cut (I J : Inst) (c : Nat → Int) : Prop where
  L : J.L = I.L
  n : J.n = I.n
  cov : ∀ i k, i < I.L → J.cov i k = I.cov i k
  pr : ∀ i, i < I.L → J.p i = I.p i
  R : ∀ k, k < I.n → J.R k = I.R k - c k
theorem Cut.rev {I J : Inst} {c : Nat → Int} (h : Cut I J c) (X : Nat → Int) : J.Rev X = I.Rev X := by
  unfold Inst.Rev
  rw [h.L]
  exact sumTo_congr (fun i hi => by rw [h.pr i hi])
theorem Cut.sum {I J : Inst} {c : Nat → Int} (h : Cut I J c) (X : Nat → Int) (k : Nat) : sumTo J.L (fun i => X i * J.cov i k) = sumTo I.L (fun i => X i * I.cov i k) := by
  rw [h.L]
  exact sumTo_congr (fun i hi => by rw [h.cov i k hi])
theorem Ext.down {I I' : Inst} {p : Int} {c : Nat → Int} (h : Ext I I' p c) (hc : ∀ k, 0 ≤ c k) {X : Nat → Int} (hX : I'.Fit X) : I.Fit X := by
  refine ⟨fun i hi => hX.one i (by rw [h.L]; omega), fun k hk => ?_⟩
  have h1 := hX.fit k (by rw [h.n]; exact hk)
  rw [h.sum, h.R k hk] at h1
  have h2 := hc k
  rcases hX.one I.L (by rw [h.L]; omega) with e | e <;> rw [e] at h1 <;> omega
theorem Ext.up0 {I I' : Inst} {p : Int} {c : Nat → Int} (h : Ext I I' p c) {X : Nat → Int} (hX : I.Fit X) : I'.Fit (upd X I.L 0) := by
  refine ⟨h.one hX.one (.inl rfl), fun k hk => ?_⟩
  rw [h.n] at hk
  rw [h.sum, h.R k hk, upd_same, upd_used, Int.zero_mul, Int.add_zero]
  exact hX.fit k hk
theorem Ext.more {I I' : Inst} {p : Int} {c : Nat → Int} (h : Ext I I' p c) (hI : I.Ok) (hI' : I'.Ok) (hc : ∀ k, 0 ≤ c k) (hp : 0 ≤ p) {n m : Int} (hn : I.Opt n) (hm : I'.Opt m) : n ≤ m ∧ m ≤ n + p := by
  constructor
  · obtain ⟨X, q, hX, _, hr, _⟩ := hn
    have := hm.max hI' (h.up0 hX)
    rw [h.rev, upd_same, upd_rev, Int.zero_mul, Int.add_zero, hr] at this
    exact this
  · obtain ⟨X, q, hX, _, hr, _⟩ := hm
    have := hn.max hI (h.down hc hX)
    rw [h.rev] at hr
    rcases hX.one I.L (by rw [h.L]; omega) with e | e <;> rw [e] at hr <;> omega
theorem Ext.worth {I I' J : Inst} {p : Int} {c : Nat → Int} (h : Ext I I' p c) (hJ : Cut I J c) (hI : I.Ok) (hI' : I'.Ok) (okJ : J.Ok) (hc : ∀ k, 0 ≤ c k) {n m v : Int} (hn : I.Opt n) (hm : I'.Opt m) (hv : J.Opt v) : m = max n (p + v) := by
  have h1 : n ≤ m := by
    obtain ⟨X, q, hX, _, hr, _⟩ := hn
    have := hm.max hI' (h.up0 hX)
    rw [h.rev, upd_same, upd_rev, Int.zero_mul, Int.add_zero, hr] at this
    exact this
  have h2 : p + v ≤ m := by
    obtain ⟨X, q, hX, _, hr, _⟩ := hv
    have hf : I'.Fit (upd X I.L 1) := by
      refine ⟨h.one (fun i hi => hX.one i (by rw [hJ.L]; exact hi)) (.inr rfl), fun k hk => ?_⟩
      rw [h.n] at hk
      rw [h.sum, h.R k hk, upd_same, upd_used, Int.one_mul]
      have := hX.fit k (by rw [hJ.n]; exact hk)
      rw [hJ.sum, hJ.R k hk] at this
      omega
    have := hm.max hI' hf
    rw [h.rev, upd_same, upd_rev, Int.one_mul] at this
    rw [hJ.rev] at hr
    omega
  have h3 : m ≤ n ∨ m ≤ p + v := by
    obtain ⟨X, q, hX, _, hr, _⟩ := hm
    rw [h.rev] at hr
    rcases hX.one I.L (by rw [h.L]; omega) with e | e
    · left
      have := hn.max hI (h.down hc hX)
      rw [e] at hr
      omega
    · right
      have hf : J.Fit X := by
        refine ⟨fun i hi => hX.one i (by rw [h.L]; rw [hJ.L] at hi; omega), fun k hk => ?_⟩
        rw [hJ.n] at hk
        have h4 := hX.fit k (by rw [h.n]; exact hk)
        rw [h.sum, h.R k hk, e, Int.one_mul] at h4
        rw [hJ.sum, hJ.R k hk]
        omega
      have := hv.max okJ hf
      rw [hJ.rev] at this
      rw [e] at hr
      omega
  omega
theorem Ext.full {I I' : Inst} {p : Int} {c : Nat → Int} (h : Ext I I' p c) (hI : I.Ok) (hI' : I'.Ok) (hc : ∀ k, 0 ≤ c k) {k : Nat} (hk : k < I.n) (hR : I.R k = 0) (hck : c k = 1) {n m : Int} (hn : I.Opt n) (hm : I'.Opt m) : m = n := by
  have h1 : n ≤ m := by
    obtain ⟨X, q, hX, _, hr, _⟩ := hn
    have := hm.max hI' (h.up0 hX)
    rw [h.rev, upd_same, upd_rev, Int.zero_mul, Int.add_zero, hr] at this
    exact this
  obtain ⟨X, q, hX, _, hr, _⟩ := hm
  rw [h.rev] at hr
  rcases hX.one I.L (by rw [h.L]; omega) with e | e
  · have := hn.max hI (h.down hc hX)
    rw [e] at hr
    omega
  · have h4 := hX.fit k (by rw [h.n]; exact hk)
    rw [h.sum, h.R k hk, e, hR, hck] at h4
    have := Inst.Fit.used (I := I) (X := X) (fun i hi => hX.one i (by rw [h.L]; omega)) k
    omega
structure Dear (I J : Inst) (j : Nat) (d : Int) : Prop where
  L : J.L = I.L
  n : J.n = I.n
  R : ∀ k, k < I.n → J.R k = I.R k
  cov : ∀ i k, i < I.L → J.cov i k = I.cov i k
  pr : ∀ i, i < I.L → i ≠ j → J.p i = I.p i
  lt : j < I.L
  at_ : J.p j = I.p j + d
theorem Dear.rev {I J : Inst} {j : Nat} {d : Int} (h : Dear I J j d) (X : Nat → Int) : J.Rev X = I.Rev X + X j * d := by
  unfold Inst.Rev
  rw [h.L, sumTo_one (f := fun i => X i * I.p i) h.lt (fun i hi hne => by rw [h.pr i hi hne]), h.at_, Int.mul_add]
  omega
theorem Dear.sum {I J : Inst} {j : Nat} {d : Int} (h : Dear I J j d) (X : Nat → Int) (k : Nat) : sumTo J.L (fun i => X i * J.cov i k) = sumTo I.L (fun i => X i * I.cov i k) := by
  rw [h.L]
  exact sumTo_congr (fun i hi => by rw [h.cov i k hi])
theorem Dear.fit {I J : Inst} {j : Nat} {d : Int} (h : Dear I J j d) {X : Nat → Int} : J.Fit X ↔ I.Fit X := by
  constructor
  · intro hX
    refine ⟨fun i hi => hX.one i (by rw [h.L]; exact hi), fun k hk => ?_⟩
    have := hX.fit k (by rw [h.n]; exact hk)
    rw [h.sum, h.R k hk] at this
    exact this
  · intro hX
    refine ⟨fun i hi => hX.one i (by rw [h.L] at hi; exact hi), fun k hk => ?_⟩
    rw [h.n] at hk
    rw [h.sum, h.R k hk]
    exact hX.fit k hk
theorem Dear.more {I J : Inst} {j : Nat} {d : Int} (h : Dear I J j d) (hd : 0 ≤ d) (hI : I.Ok) (hJ : J.Ok) {m k : Int} (hm : I.Opt m) (hk : J.Opt k) : m ≤ k ∧ k ≤ m + d := by
  constructor
  · obtain ⟨X, q, hX, _, hr, _⟩ := hm
    have := hk.max hJ (h.fit.2 hX)
    rw [h.rev] at this
    rcases hX.one j h.lt with e | e <;> rw [e] at this <;> omega
  · obtain ⟨X, q, hX, _, hr, _⟩ := hk
    have := hm.max hI (h.fit.1 hX)
    rw [h.rev] at hr
    rcases hX.one j (by rw [h.L]; exact h.lt) with e | e <;> rw [e] at hr <;> omega
def covL (x : S47) (k : Nat) : Int := if x.f0.toNat ≤ k ∧ k < x.f1.toNat then 1 else 0
theorem covL_nonneg (x : S47) (k : Nat) : 0 ≤ covL x k := by unfold covL; split <;> decide
theorem getD_snoc {l : List S47} {x : S47} {i : Nat} (h : i < l.length) : (l ++ [x]).getD i z47 = l.getD i z47 := by
  rw [List.getD_eq_getElem?_getD, List.getElem?_append_left h, List.getD_eq_getElem?_getD]
theorem getD_last (l : List S47) (x : S47) : (l ++ [x]).getD l.length z47 = x := by
  rw [List.getD_eq_getElem?_getD, List.getElem?_append_right (Nat.le_refl _), Nat.sub_self]; rfl
theorem ext_of (l : List S47) (r : List Int) (x : S47) : Ext (inst l r) (inst (l ++ [x]) r) x.f2 (covL x) := {
  L := by simp [inst]
  n := rfl
  R := fun k _ => rfl
  cov := fun i k hi => by
    have hi' : i < l.length := hi
    simp only [Inst.cov, inst, getD_snoc hi']
    exact ite_congr rfl (fun _ => rfl) (fun _ => rfl)
  pr := fun i hi => by
    have hi' : i < l.length := hi
    simp only [inst, getD_snoc hi']
  covL := fun k => by
    show (inst (l ++ [x]) r).cov l.length k = covL x k
    simp only [Inst.cov, inst, getD_last, covL]
  pL := by
    show (inst (l ++ [x]) r).p l.length = x.f2
    simp only [inst, getD_last] }
theorem lessV_some : ∀ (d i : Nat) (xs ys : List Int), lessF d i xs = some ys → i + d ≤ xs.length → (∀ k, 0 ≤ xs.getD k 0 ∧ xs.getD k 0 ≤ 8) → ys.length = xs.length ∧ ∀ k, 0 ≤ ys.getD k 0 ∧ ys.getD k 0 = xs.getD k 0 - (if i ≤ k ∧ k < i + d then 1 else 0)
  | 0, i, xs, ys, h, _, hb => by
    simp only [lessF, Option.some.injEq] at h
    subst h
    exact ⟨rfl, fun k => ⟨(hb k).1, by rw [if_neg (by omega)]; omega⟩⟩
  | d + 1, i, xs, ys, h, hl, hb => by
    simp only [lessF] at h
    split at h
    · cases h
    · rename_i hne
      have hi := hb i
      have ew : wrap64 (xs.getD i 0 - 1) = xs.getD i 0 - 1 := by unfold wrap64; omega
      rw [ew] at h
      have gs : ∀ k, (xs.set i (xs.getD i 0 - 1)).getD k 0 = xs.getD k 0 - (if k = i then 1 else 0) := by
        intro k
        by_cases e : k = i
        · subst e
          rw [List.getD_eq_getElem?_getD, List.getElem?_set_self (by omega), if_pos rfl]; rfl
        · rw [List.getD_eq_getElem?_getD, List.getElem?_set_ne (by omega), if_neg e, List.getD_eq_getElem?_getD]; omega
      have := lessV_some d (i + 1) _ ys h (by rw [List.length_set]; omega) (fun k => by
        rw [gs k]
        have := hb k
        split
        · rename_i e; subst e; omega
        · omega)
      refine ⟨by rw [this.1, List.length_set], fun k => ⟨(this.2 k).1, ?_⟩⟩
      rw [(this.2 k).2, gs k]
      by_cases e : k = i
      · subst e
        rw [if_pos rfl, if_neg (by omega), if_pos (by omega)]; omega
      · rw [if_neg e]
        by_cases e2 : i + 1 ≤ k ∧ k < i + 1 + d
        · rw [if_pos e2, if_pos (by omega)]; omega
        · rw [if_neg e2, if_neg (by omega)]; omega
theorem lessV_none : ∀ (d i : Nat) (xs : List Int), lessF d i xs = none → i + d ≤ xs.length → ∃ k, i ≤ k ∧ k < i + d ∧ xs.getD k 0 = 0
  | 0, i, xs, h, _ => by simp [lessF] at h
  | d + 1, i, xs, h, hl => by
    simp only [lessF] at h
    split at h
    · rename_i e
      exact ⟨i, by omega, by omega, e⟩
    · obtain ⟨k, h1, h2, h3⟩ := lessV_none d (i + 1) _ h (by rw [List.length_set]; omega)
      refine ⟨k, by omega, by omega, ?_⟩
      rw [List.getD_eq_getElem?_getD, List.getElem?_set_ne (by omega)] at h3
      rw [List.getD_eq_getElem?_getD]
      exact h3
theorem room_getD {r : List Int} (h : ∀ x ∈ r, 0 ≤ x ∧ x ≤ 8) (k : Nat) : 0 ≤ r.getD k 0 ∧ r.getD k 0 ≤ 8 := by
  rw [List.getD_eq_getElem?_getD]
  by_cases hk : k < r.length
  · rw [List.getElem?_eq_getElem hk]; exact h _ (List.getElem_mem hk)
  · rw [List.getElem?_eq_none (by omega)]; decide
theorem cut_of {l : List S47} {r less : List Int} {x : S47} (hr : ∀ y ∈ r, 0 ≤ y ∧ y ≤ 8) (hx : x.f0.toNat ≤ x.f1.toNat) (hn : x.f1.toNat ≤ r.length) (h : lessF (x.f1.toNat - x.f0.toNat) x.f0.toNat r = some less) : Cut (inst l r) (inst l less) (covL x) := by
  have h1 := lessV_some _ _ _ _ h (by omega) (room_getD hr)
  refine ⟨rfl, h1.1, fun _ _ _ => rfl, fun _ _ => rfl, fun k _ => ?_⟩
  show less.getD k 0 = r.getD k 0 - covL x k
  rw [(h1.2 k).2, covL]
  by_cases e : x.f0.toNat ≤ k ∧ k < x.f0.toNat + (x.f1.toNat - x.f0.toNat)
  · rw [if_pos e, if_pos (by omega)]
  · rw [if_neg e, if_neg (by omega)]
theorem good_lessV {l : List S47} {r less : List Int} (hg : A.Good l r) {f t : Nat} (hft : f ≤ t) (hn : t ≤ r.length) (h : lessF (t - f) f r = some less) : A.Good l less := by
  have h1 := lessV_some _ _ _ _ h (by omega) (room_getD hg.room)
  refine ⟨hg.many, by rw [h1.1]; exact hg.nights, fun y hy => ?_, by rw [h1.1]; exact hg.from_, hg.price⟩
  obtain ⟨k, hk, rfl⟩ := List.getElem_of_mem hy
  have h2 := h1.2 k
  have h3 := room_getD hg.room k
  have e : less[k] = less.getD k 0 := by rw [List.getD_eq_getElem?_getD, List.getElem?_eq_getElem hk]; rfl
  rw [e]
  split at h2 <;> omega
end Go.Proofs.Ytpjobcnfjpbaeaa.M

namespace Go.Proofs.Ytpjobcnfjpbaeaa.A
open Go.RowKit Go.Proofs.YtpjobcnfjpbaeaaW.PrintWords Go.Proofs.YtpjobcnfjpbaeaaW.PrintLast Go.Proofs.YtpjobcnfjpbaeaaW.PrintMore
open Go.Proofs.Ytpjobcnfjpbaeaa.PA Go.Proofs.Ytpjobcnfjpbaeaa.M
attribute [local go_sem] max2_int min2_int max_two min_two
theorem cut_le {I J : Inst} {c : Nat → Int} (h : Cut I J c) (hc : ∀ k, 0 ≤ c k) (hI : I.Ok) {n v : Int} (hn : I.Opt n) (hv : J.Opt v) : v ≤ n := by
  obtain ⟨X, q, hX, _, hr, _⟩ := hv
  have hf : I.Fit X := by
    refine ⟨fun i hi => hX.one i (by rw [h.L]; exact hi), fun k hk => ?_⟩
    have := hX.fit k (by rw [h.n]; exact hk)
    rw [h.sum, h.R k hk] at this
    have := hc k
    omega
  have := hn.max hI hf
  rw [h.rev] at hr
  omega
theorem good_snoc {l : List S47} {r : List Int} (hg : Good l r) (hl : l.length ≤ 39) {x : S47} (h0 : 0 ≤ x.f0 ∧ x.f0 < x.f1 ∧ x.f1 ≤ r.length) (h1 : 0 ≤ x.f2 ∧ x.f2 ≤ 1000000) : Good (l ++ [x]) r := by
  refine ⟨by rw [List.length_append, List.length_singleton]; omega, hg.nights, hg.room, fun y hy => ?_, fun y hy => ?_⟩
  · rcases List.mem_append.1 hy with h | h
    · exact hg.from_ y h
    · rw [List.mem_singleton.1 h]; exact h0
  · rcases List.mem_append.1 hy with h | h
    · exact hg.price y h
    · rw [List.mem_singleton.1 h]; exact h1
theorem addz (a : Addr) : a.add (0 * 3) = a := by rw [Nat.zero_mul]; obtain ⟨b, o, f⟩ := a; unfold Addr.add; split <;> simp_all
set_option maxRecDepth 100000 in
set_option maxHeartbeats 6400000 in
theorem worth_walk (A : Option Addr) (c : Nat) (l : List S47) (A1 : Option Addr) (c1 : Nat) (r : List Int) (a b d : Int) (w : World) (hr : Kd.C k47 w A l.length l) (hc : l.length ≤ c)
    (_hw : ∀ x ∈ l, (Lit.int .i64 x.f0).wf = true ∧ (Lit.int .i64 x.f1).wf = true ∧ (Lit.int .i64 x.f2).wf = true) (hr1 : Kd.C (Kd.int .i64) w A1 r.length r) (hc1 : r.length ≤ c1) (_hw1 : ∀ x ∈ r, (Lit.int .i64 x).wf = true)
    (ha : -9223372036854775808 ≤ a ∧ a ≤ 9223372036854775807) (hb : -9223372036854775808 ≤ b ∧ b ≤ 9223372036854775807) (hd : -9223372036854775808 ≤ d ∧ d ≤ 9223372036854775807) :
    Calls Try.prog 6 #[.slice A l.length c, .slice A1 r.length c1, .agg #[.int .i64 a, .int .i64 b, .int .i64 d]] w fun e w' => e = .returned (.bool true) ∧ Below w.heap.size w w' := by
  obtain ⟨own, hown, htm⟩ := tamed_c A1 c1 r w hr1 hc1
  have hbox : Below w.heap.size w (w.alloc (Obj.cells #[.int .i64 a, .int .i64 b, .int .i64 d] 45)) := (Below.refl _ _).alloc (Nat.le_refl _) _
  have hn := hown.nights
  obtain ⟨hn1, hn2⟩ := hn
  obtain ⟨al, hal⟩ : ∃ al, al = (l.take 15).map (tame1 (own.length : Int)) := ⟨_, rfl⟩
  have hg : Good al own := by rw [hal]; exact good_tame hown l (by omega)
  have hbl : al.length ≤ 15 := by rw [hal, List.length_map, List.length_take]; omega
  have htame : ∀ w', Below w.heap.size w w' → Calls Try.prog 24 #[.slice A l.length c, .int .i64 (own.length : Int), .int .i64 15] w' fun e w'' => ∃ v, e = .returned v ∧ Kd.R k47 47 w'' w'.heap.size (fun _ => True) v al ∧ Below w'.heap.size w' w'' := fun w' h => by rw [hal]; exact tame_c A c l own.length 15 w' (Kd.C_below hr h) hc (by omega) (by omega)
  have HTM := Lib.hid (htm _ hbox)
  have HTAME := Lib.hid htame
  have HG := Lib.hid hg
  have HOWN := Lib.hid hown
  have HBOX := Lib.hid hbox
  have hs0 : (w.alloc (Obj.cells #[.int .i64 a, .int .i64 b, .int .i64 d] 45)).heap.size = w.heap.size + 1 := by simp
  have HX0 : Hid ((w.alloc (Obj.cells #[.int .i64 a, .int .i64 b, .int .i64 d] 45)).heap[w.heap.size]? = some (.cells #[.int .i64 a, .int .i64 b, .int .i64 d] 45 (0, 0))) := Lib.hid (heap_alloc_new _ _)
  clear htm hbox hal htame hg hown hr hr1 _hw _hw1
  go_enter Try.func6, Try.ntmps6
  go_wp2_with fail
  refine HTM.out.mono ?_
  rintro e w1 ⟨v1, rfl, hR1, hB1⟩
  have hs1 := hB1.size
  rw [hs0] at hs1 hB1
  obtain ⟨OA, oc, rfl, hoc, hCo⟩ := Kd.R_reads hR1
  have hB1w : Below w.heap.size w w1 := HBOX.out.trans (hB1.mono (by omega))
  have HX1 : Hid (w1.heap[w.heap.size]? = some (.cells #[.int .i64 a, .int .i64 b, .int .i64 d] 45 (0, 0))) := Lib.hid ((hB1.block _ (by omega)).trans HX0.out)
  have HB1 := Lib.hid hB1w
  have HCO1 := Lib.hid hCo
  clear hR1 hB1 hB1w hCo hs0
  go_wp2_with fail
  refine (HTAME.out w1 HB1.out).mono ?_
  rintro e w2 ⟨v2, rfl, hR2, hB2⟩
  have hs2 := hB2.size
  obtain ⟨BA, bc, rfl, hbc, hCb⟩ := Kd.R_reads hR2
  have HX2 : Hid (w2.heap[w.heap.size]? = some (.cells #[.int .i64 a, .int .i64 b, .int .i64 d] 45 (0, 0))) := Lib.hid ((hB2.block _ (by omega)).trans HX1.out)
  have HB2 := Lib.hid (HB1.out.trans (hB2.mono (by omega)))
  have HCO2 := Lib.hid (Kd.C_below HCO1.out hB2)
  have HCB2 := Lib.hid hCb
  clear hR2 hB2 hCb
  have HBw2 := HB2
  have HXw2 := HX2
  have HOw2 := HCO2
  have HAw2 := HCB2
  clear HB1 HX1 HX0 HBOX HCO1 HTM HTAME HB2 HX2 HCO2 HCB2
  have hlit : Kd.C k47 (w2.alloc (.cells #[.int .i64 a, .int .i64 b, .int .i64 d] 47)) (some ⟨w2.heap.size, 0, none⟩) 1 [⟨a, b, d⟩] := lit_bk w2 [⟨a, b, d⟩] (by simp)
  have hone := tame_c (some ⟨w2.heap.size, 0, none⟩) 1 [⟨a, b, d⟩] own.length 1 _ hlit (by simp) (by omega) (by omega)
  have hgo := good_tame HOWN.out [⟨a, b, d⟩] (m := 1) (by omega)
  have eone : ([⟨a, b, d⟩] : List S47).take 1 = [⟨a, b, d⟩] := rfl
  rw [eone] at hone hgo
  obtain ⟨x, hx⟩ : ∃ x, x = tame1 (own.length : Int) ⟨a, b, d⟩ := ⟨_, rfl⟩
  rw [show ([⟨a, b, d⟩] : List S47).map (tame1 (own.length : Int)) = [x] by rw [hx]; rfl] at hone hgo
  have hx0 := hgo.from_ x (by simp)
  have hx1 := hgo.price x (by simp)
  have HONE := Lib.hid hone
  have hal0 : Below w2.heap.size w2 (w2.alloc (.cells #[.int .i64 a, .int .i64 b, .int .i64 d] 47)) := (Below.refl _ _).alloc (Nat.le_refl _) _
  have HAL0 := Lib.hid hal0
  have hsa : (w2.alloc (.cells #[.int .i64 a, .int .i64 b, .int .i64 d] 47)).heap.size = w2.heap.size + 1 := by simp
  have HSA := Lib.hid hsa
  clear hlit hone hgo eone hx hal0 hsa
  obtain ⟨xf, xt, xp⟩ := x
  simp only at hx0 hx1
  obtain ⟨hxf, hxt, hxn⟩ := hx0
  obtain ⟨hxp0, hxp9⟩ := hx1
  have y0 : w2.cell? ⟨w.heap.size, 0, none⟩ = some (.int .i64 a) := by simp [World.cell?, HXw2.out]
  have y1 : w2.cell? ⟨w.heap.size, 1, none⟩ = some (.int .i64 b) := by simp [World.cell?, HXw2.out]
  have y2 : w2.cell? ⟨w.heap.size, 2, none⟩ = some (.int .i64 d) := by simp [World.cell?, HXw2.out]
  go_wp2_with fail
  refine HONE.out.mono ?_
  rintro e w3 ⟨v3, rfl, hR, hB⟩
  rw [HSA.out] at hB
  have hB : Below w2.heap.size w2 w3 := HAL0.out.trans (hB.mono (by omega))
  obtain ⟨XA, xc, rfl, hxc, hCx⟩ := Kd.R_reads hR
  clear y0 y1 y2 hR
  have hsw3 := hB.size
  have HBw3 := Lib.hid (HBw2.out.trans (hB.mono (by omega)))
  have HOw3 := Lib.hid (Kd.C_below HOw2.out hB)
  have HAw3 := Lib.hid (Kd.C_below HAw2.out hB)
  have HXw3 : Hid (w3.heap[w.heap.size]? = some (.cells #[.int .i64 a, .int .i64 b, .int .i64 d] 45 (0, 0))) := Lib.hid ((hB.block _ (by omega)).trans HXw2.out)
  clear hB
  obtain ⟨ad, x', hXA, HX, z0, z1, z2⟩ := at_bk hCx (Below.refl _ _) 0 (by simp)
  obtain rfl : (⟨xf, xt, xp⟩ : S47) = x' := by have h := HX.out; simpa using h
  subst hXA
  rw [addz ad] at z0 z1 z2
  simp only at z0 z1 z2
  clear hCx HX
  go_upto_region 4 with fail
  obtain ⟨w4, hw4⟩ : ∃ w4, w4 = w3.alloc (.cells #[.int .i64 xf, .int .i64 xt, .int .i64 xp] 47) := ⟨_, rfl⟩
  rw [← hw4]
  have hB : Below w3.heap.size w3 w4 := by rw [hw4]; exact (Below.refl _ _).alloc (Nat.le_refl _) _
  have hsz4 : w4.heap.size = w3.heap.size + 1 := by rw [hw4]; simp
  have HY4 : Hid (w4.heap[w3.heap.size]? = some (.cells #[.int .i64 xf, .int .i64 xt, .int .i64 xp] 47 (0, 0))) := Lib.hid (by rw [hw4]; exact heap_alloc_new _ _)
  have hsw4 := hB.size
  have HBw4 := Lib.hid (HBw3.out.trans (hB.mono (by omega)))
  have HOw4 := Lib.hid (Kd.C_below HOw3.out hB)
  have HAw4 := Lib.hid (Kd.C_below HAw3.out hB)
  have HXw4 : Hid (w4.heap[w.heap.size]? = some (.cells #[.int .i64 a, .int .i64 b, .int .i64 d] 45 (0, 0))) := Lib.hid ((hB.block _ (by omega)).trans HXw3.out)
  clear hB
  clear hw4 z0 z1 z2
  go_wp2_with fail
  refine (revenue_c BA bc al OA oc own w4 HAw4.out hbc HOw4.out HG.out).mono ?_
  rintro e w5 ⟨⟨n, rfl, hn, hn0, hn9⟩, hB⟩
  have HY5 : Hid (w5.heap[w3.heap.size]? = some (.cells #[.int .i64 xf, .int .i64 xt, .int .i64 xp] 47 (0, 0))) := Lib.hid ((hB.block _ (by omega)).trans HY4.out)
  have hsw5 := hB.size
  have HBw5 := Lib.hid (HBw4.out.trans (hB.mono (by omega)))
  have HOw5 := Lib.hid (Kd.C_below HOw4.out hB)
  have HAw5 := Lib.hid (Kd.C_below HAw4.out hB)
  have HXw5 : Hid (w5.heap[w.heap.size]? = some (.cells #[.int .i64 a, .int .i64 b, .int .i64 d] 45 (0, 0))) := Lib.hid ((hB.block _ (by omega)).trans HXw4.out)
  clear hB
  have HN := Lib.hid hn
  clear hn
  obtain ⟨lb, hlb⟩ : ∃ lb, lb = w3.heap.size := ⟨_, rfl⟩
  have HLB := Lib.hid hlb
  have hlb5 : lb < w5.heap.size := by omega
  rw [← hlb] at HY5 ⊢
  clear hlb HY4 hsz4
  have HBK : Hid (∀ w', Below w5.heap.size w5 w' → Calls Try.prog 14 #[.slice BA al.length bc] w' fun e w'' => ∃ v, e = .returned v ∧ Kd.R k47 47 w'' w'.heap.size (fun _ => True) v al ∧ Below w'.heap.size w' w'') := Lib.hid (fun w' h => (bookings_c BA bc al w' (Kd.C_below HAw5.out h) hbc).mono (fun e w'' ⟨v, h1, h2, h3⟩ => ⟨v, h1, by rw [List.take_of_length_le (by omega)] at h2; exact h2, h3⟩))
  have CE : Hid (∀ w', Below w5.heap.size w5 w' → w'.cell? ⟨lb, 0, none⟩ = some (.int .i64 xf) ∧ w'.cell? ⟨lb, 1, none⟩ = some (.int .i64 xt) ∧ w'.cell? ⟨lb, 2, none⟩ = some (.int .i64 xp) ∧ Below w5.heap.size w5 w') := Lib.hid (fun w' h => by
    have h1 := (h.block lb hlb5).trans HY5.out
    exact ⟨by simp [World.cell?, h1], by simp [World.cell?, h1], by simp [World.cell?, h1], h⟩)
  obtain ⟨l2, hl2⟩ : ∃ l2, l2 = al ++ [⟨xf, xt, xp⟩] := ⟨_, rfl⟩
  have HL2 := Lib.hid hl2
  have HGL2 : Hid (Good l2 own) := Lib.hid (by rw [hl2]; exact good_snoc HG.out (by omega) ⟨hxf, hxt, hxn⟩ ⟨hxp0, hxp9⟩)
  clear hl2
  go_upto_region 5 with fail
  go_cut [11] (fun s11 wx => ∃ m : Int, s11 = .int .i64 m ∧ Hid ((inst l2 own).Opt m) ∧ 0 ≤ m ∧ m ≤ 40000000 ∧ Below w5.heap.size w5 wx)
  case first =>
    go_region_held3 (fun w' => w'.cell? ⟨lb, 0, none⟩ = some (.int .i64 xf) ∧ w'.cell? ⟨lb, 1, none⟩ = some (.int .i64 xt) ∧ w'.cell? ⟨lb, 2, none⟩ = some (.int .i64 xp) ∧ Below w5.heap.size w5 w')
      ((refine CE.out _ ?_; first | exact (Below.refl _ _).drew | exact ((Below.refl _ _).drew).alloc (Nat.le_refl _) _ | exact ((Below.refl _ _).alloc (Nat.le_refl _) _).drew | exact hB6 | exact hB6.alloc hB6.size _ | exact hB7 | exact hB8))
      (first
        | (go_at_call_of 14 (Value.slice BA al.length bc)
           refine (HBK.out _ ?_).mono ?_
           · first | exact (Below.refl _ _).drew | exact ((Below.refl _ _).alloc (Nat.le_refl _) _).drew
           rintro e w6 ⟨v5, rfl, hR, hb⟩
           have hB6 : Below w5.heap.size w5 w6 := by first | exact ((Below.refl _ _).drew).trans (hb.mono (Nat.le_refl _)) | exact (((Below.refl _ _).alloc (Nat.le_refl _) _).drew).trans (hb.mono (by simp)))
        | (go_at_call_of 25 (Value.slice VA l2.length vc)
           refine (revenue_c VA vc l2 OA oc own w7 hCv hvc (Kd.C_below HOw5.out hB7) HGL2.out).mono ?_
           rintro e w8 ⟨⟨m, rfl, hm, hm0, hm9⟩, hb8⟩
           have hB8 : Below w5.heap.size w5 w8 := hB7.trans (hb8.mono hB7.size))
        | (refine Kd.R_append_rows_step k47 (Rr := k47.K _) (w0 := w5.drew) w5.drew.heap.size rfl (.tmp 39) (.tmp 41) 22 47 (.agg #[(.int .i64 0), (.int .i64 0), (.int .i64 0)]) 24 rfl Try.underlying22 info47 rfl (by decide) (by omega) v5 al [⟨xf, xt, xp⟩] (some ⟨w6.heap.size, 0, none⟩) 1 1 (fun _ => True) (fun _ => False) (by rfl) (by rfl) (Kd.R_below hR ((Below.refl _ _).alloc (Nat.le_refl _) _)) (lit_bk w6 [⟨xf, xt, xp⟩] (by simp)) (fun x cs h => by rw [k47_open h]; exact k47_mkM _ _ _ x) (fun _ h => h.elim) (fun _ _ => trivial) (hb.alloc hb.size _) ((hb.alloc hb.size _).size) (by omega) ?_
           intro v7 w7 hR7 hb7 hg7 hat7
           have hB7 : Below w5.heap.size w5 w7 := ((Below.refl _ _).drew).trans (hb7.mono (Nat.le_refl _))
           rw [← HL2.out] at hR7
           obtain ⟨VA, vc, rfl, hvc, hCv⟩ := Kd.R_reads hR7)
        | (refine Kd.R_append_rows_step k47 (Rr := k47.K _) (w0 := (w5.alloc (Obj.cells #[.int .i64 xf, .int .i64 xt, .int .i64 xp] 47)).drew) (w5.alloc (Obj.cells #[.int .i64 xf, .int .i64 xt, .int .i64 xp] 47)).drew.heap.size rfl (.tmp 39) (.tmp 41) 22 47 (.agg #[(.int .i64 0), (.int .i64 0), (.int .i64 0)]) 24 rfl Try.underlying22 info47 rfl (by decide) (by omega) v5 al [⟨xf, xt, xp⟩] (some ⟨w5.heap.size, 0, none⟩) 1 1 (fun _ => True) (fun _ => False) (by rfl) (by rfl) (hR) (Kd.C_below (Kd.C_drew (lit_bk w5 [⟨xf, xt, xp⟩] (by simp))) hb) (fun x cs h => by rw [k47_open h]; exact k47_mkM _ _ _ x) (fun _ h => h.elim) (fun _ _ => trivial) (hb) (hb.size) (by omega) ?_
           intro v7 w7 hR7 hb7 hg7 hat7
           have hB7 : Below w5.heap.size w5 w7 := (((Below.refl _ _).alloc (Nat.le_refl _) _).drew).trans (hb7.mono (by simp))
           rw [← HL2.out] at hR7
           obtain ⟨VA, vc, rfl, hvc, hCv⟩ := Kd.R_reads hR7))
    all_goals (go_wp2_with fail; go_meet; exact ⟨m, rfl, Lib.hid hm, hm0, hm9, hB8⟩)
  case rest =>
    obtain ⟨m, rfl, HM, hm0, hm9, hB⟩ := hcut
    rename World => w6
    have HY6 : Hid (w6.heap[lb]? = some (.cells #[.int .i64 xf, .int .i64 xt, .int .i64 xp] 47 (0, 0))) := Lib.hid ((hB.block _ (by omega)).trans HY5.out)
    have hsw6 := hB.size
    have HBw6 := Lib.hid (HBw5.out.trans (hB.mono (by omega)))
    have HOw6 := Lib.hid (Kd.C_below HOw5.out hB)
    have HAw6 := Lib.hid (Kd.C_below HAw5.out hB)
    have HXw6 : Hid (w6.heap[w.heap.size]? = some (.cells #[.int .i64 a, .int .i64 b, .int .i64 d] 45 (0, 0))) := Lib.hid ((hB.block _ (by omega)).trans HXw5.out)
    clear hB
    clear CE HBK
    have hext : Ext (inst al own) (inst l2 own) xp (covL ⟨xf, xt, xp⟩) := by rw [HL2.out]; exact ext_of al own ⟨xf, xt, xp⟩
    have hmore := hext.more (inst_ok HG.out) (inst_ok HGL2.out) (covL_nonneg _) hxp0 HN.out HM.out
    have hnm := hmore.1
    have HEXT := Lib.hid hext
    clear hext hmore
    obtain ⟨K, qn, qe, hq, hqi⟩ := quote_is al own xf xt
    have HQI := Lib.hid hqi
    have HQ := Lib.hid (Quote_c BA bc al OA oc K own xf xt qn qe w6 HAw6.out hbc HOw6.out hoc (hq K (Nat.le_refl _)))
    clear hq hqi
    have y0 : w6.cell? ⟨lb, 0, none⟩ = some (.int .i64 xf) := by simp [World.cell?, HY6.out]
    have y1 : w6.cell? ⟨lb, 1, none⟩ = some (.int .i64 xt) := by simp [World.cell?, HY6.out]
    go_wp2_with fail
    refine HQ.out.mono ?_
    rintro e w7 ⟨rfl, hB⟩
    clear y0 y1
    have HY7 : Hid (w7.heap[lb]? = some (.cells #[.int .i64 xf, .int .i64 xt, .int .i64 xp] 47 (0, 0))) := Lib.hid ((hB.block _ (by omega)).trans HY6.out)
    have hsw7 := hB.size
    have HBw7 := Lib.hid (HBw6.out.trans (hB.mono (by omega)))
    have HOw7 := Lib.hid (Kd.C_below HOw6.out hB)
    have HAw7 := Lib.hid (Kd.C_below HAw6.out hB)
    have HXw7 : Hid (w7.heap[w.heap.size]? = some (.cells #[.int .i64 a, .int .i64 b, .int .i64 d] 45 (0, 0))) := Lib.hid ((hB.block _ (by omega)).trans HXw6.out)
    clear hB
    have y0 : w7.cell? ⟨lb, 0, none⟩ = some (.int .i64 xf) := by simp [World.cell?, HY7.out]
    have y1 : w7.cell? ⟨lb, 1, none⟩ = some (.int .i64 xt) := by simp [World.cell?, HY7.out]
    have y2 : w7.cell? ⟨lb, 2, none⟩ = some (.int .i64 xp) := by simp [World.cell?, HY7.out]
    clear HQ
    go_upto_region 9 with fail
    have hqi := HQI.out
    have hcut0 : xf.toNat ≤ xt.toNat := by omega
    have hcut1 : xt.toNat ≤ own.length := by omega
    cases hqi with
    | bad h => exact absurd ⟨HG.out, hxf, hxt, hxn⟩ h
    | none hgo hr hl hqn hqe =>
      subst hqn
      subst hqe
      obtain ⟨k, hk1, hk2, hk3⟩ := lessV_none _ _ _ hl (by omega)
      obtain rfl : m = n := HEXT.out.full (inst_ok HG.out) (inst_ok HGL2.out) (covL_nonneg _) (k := k) (show k < own.length by omega) hk3 (by unfold covL; rw [if_pos (by simp only; omega)]) HN.out HM.out
      have HK := Lib.hid hk3
      clear hgo hr hl HQI hk3
      obtain ⟨f, rfl⟩ := Int.eq_ofNat_of_zero_le hxf
      go_wp2_with fail
      go_loopw [14, 15] (fun v14 v15 wr => ∃ (q : Nat) (g : Bool), v15 = .int .i64 (q : Int) ∧ v14 = .bool g ∧ f ≤ q ∧ (q : Int) ≤ xt ∧ (k < q → g = true) ∧ wr = w7) (fun _ v15 _ => xt.toNat - (intOf v15).toNat)
      case atStart => exact ⟨f, false, rfl, rfl, Nat.le_refl _, by omega, fun h => by omega, rfl⟩
      case round =>
        obtain ⟨q, g, rfl, rfl, hq0, hq1, hq2, rfl⟩ := hrel
        by_cases hlt : (q : Int) < xt
        · obtain ⟨od, oy, rfl, HOY, oz⟩ := at_int HOw7.out (Below.refl _ _) q (by omega)
          have hoy : own.getD q 0 = oy := by rw [List.getD_eq_getElem?_getD, HOY.out]; rfl
          have hh : k = q → oy = 0 := fun h => by rw [← hoy, ← h]; exact HK.out
          clear hoy
          cases g with
          | true =>
            go_wp2_with fail
            go_roundw
            case rel => exact ⟨q + 1, true, by go_num, rfl, by omega, by omega, fun _ => rfl, by simp⟩
            case measure => simp [intOf]; omega
          | false =>
            have hne : ¬ k < q := fun h => by have := hq2 h; cases this
            by_cases hz : oy = 0
            · subst hz
              clear hh hq2
              go_wp2_with fail
              go_roundw
              case rel => exact ⟨q + 1, true, by go_num, rfl, by omega, by omega, fun _ => rfl, by simp⟩
              case measure => simp [intOf]; omega
            · have hkq : ¬ k = q := fun h => hz (hh h)
              clear hh hq2
              go_wp2_with fail
              go_roundw
              case rel => exact ⟨q + 1, _, by go_num, rfl, by omega, by omega, fun h => by omega, by simp⟩
              case measure => simp [intOf]; omega
        · obtain rfl : g = true := hq2 (by omega)
          clear hq2
          go_wp2_with fail
          refine (awake_c _).mono ?_
          rintro e w99 ⟨rfl, hB99⟩
          have HB99 := Lib.hid (HBw7.out.trans (hB99.mono (by omega)))
          clear hB99
          go_wp2_with fail
          go_ret
          exact ⟨rfl, HB99.out⟩
    | some hgo hr less hl v m' hv hm' hb9 hqn hqe =>
      subst hqe
      obtain rfl : v = n := hv.uniq (inst_ok HG.out) HN.out
      have hc := cut_of (l := al) (x := ⟨xf, xt, xp⟩) HG.out.room hcut0 hcut1 hl
      have hgl := good_lessV HG.out hcut0 hcut1 hl
      have hmm := HEXT.out.worth hc (inst_ok HG.out) (inst_ok HGL2.out) (inst_ok hgl) (covL_nonneg _) HN.out HM.out hm'
      have hmn := cut_le hc (covL_nonneg _) (inst_ok HG.out) hv hm'
      have hq0 : 0 ≤ qn := by omega
      have hq1 : qn ≤ v := by omega
      clear hgo hr hl hc hgl hv hm' HQI hcut0 hcut1
      by_cases hp : 0 < xp - qn
      · have hme : m = v + (xp - qn) := by omega
        clear hmm hqn hb9
        go_wp2_with fail
        refine (awake_c _).mono ?_
        rintro e w99 ⟨rfl, hB99⟩
        have HB99 := Lib.hid (HBw7.out.trans (hB99.mono (by omega)))
        clear hB99
        go_wp2_with fail
        go_ret
        exact ⟨rfl, HB99.out⟩
      · have hme : m = v := by omega
        clear hmm hqn hb9
        subst hme
        go_wp2_with fail
        refine (awake_c _).mono ?_
        rintro e w99 ⟨rfl, hB99⟩
        have HB99 := Lib.hid (HBw7.out.trans (hB99.mono (by omega)))
        clear hB99
        go_wp2_with fail
        go_ret
        exact ⟨rfl, HB99.out⟩
end Go.Proofs.Ytpjobcnfjpbaeaa.A

namespace Go.Proofs.Ytpjobcnfjpbaeaa.E
open Go.ChangeShapes Go.WideShapes Go.ChangeAt Go.RowKit Go.Deep
open Go.Proofs.YtpjobcnfjpbaeaaW.PrintWords Go.Proofs.YtpjobcnfjpbaeaaW.PrintLast Go.Proofs.YtpjobcnfjpbaeaaW.PrintMore
open Go.Proofs.Ytpjobcnfjpbaeaa.PA
variable {H : Type} {enc : TypeId × Value → H}
theorem open_int3 {W : World} {fuel : Nat} {cs : List Value} {x : DataW H × List MemPlace} (h : DataW.trod enc Try.prog W 0 (fun _ => true) true fuel 3 cs = some x) : ∃ n, cs = [.int .i64 n] ∧ x = (.lit (.int .i64 n), []) ∧ (Lit.int .i64 n).wf = true :=
  DataW.trod_int Try.underlying3 h
theorem len3 : ∀ {l : List Value}, l.length = 3 → ∃ a b c, l = [a, b, c]
  | [a, b, c], _ => ⟨a, b, c, rfl⟩
  | [], h => by simp at h
  | [_], h => by simp at h
  | [_, _], h => by simp at h
  | _ :: _ :: _ :: _ :: _, h => by simp at h
instance : Inhabited S47 := ⟨z47⟩
theorem open_bks {W : World} {a : Option Addr} {len cap : Nat} {d : DataW H} {p : List MemPlace} (h : DataW.Trod enc Try.prog W 0 (fun _ => true) true 22 (.slice a len cap) d p) :
    ∃ xs : List S47, xs.length = len ∧ len ≤ cap ∧ Kd.C k47 W a len xs ∧ ∀ x ∈ xs, (Lit.int .i64 x.f0).wf = true ∧ (Lit.int .i64 x.f1).wf = true ∧ (Lit.int .i64 x.f2).wf = true := by
  obtain ⟨fuel, hf⟩ := h
  have e3 : Try.prog.cellsOf 47 = 3 := by kernel_rfl
  have e1 : Try.prog.cellsOf 3 = 1 := by kernel_rfl
  rcases open_slice Try.underlying22 hf with ⟨hcs, _⟩ | ⟨x, l, c, m, n, D, Pl, hcs, _, hl, hm, hmm, _, hel⟩
  · simp [Value.cells] at hcs
    obtain ⟨rfl, rfl, rfl⟩ := hcs
    exact ⟨[], rfl, Nat.le_refl _, ⟨rfl, by omega, fun h => by omega⟩, fun x hx => by simp at hx⟩
  · simp [Value.cells] at hcs
    obtain ⟨rfl, rfl, rfl⟩ := hcs
    simp only [if_true] at hmm
    subst hmm
    have key : ∀ i, i < m → ∃ s : S47, (W.cell? (x.add (i * 3)) = some (.int .i64 s.f0) ∧ W.cell? (x.add (i * 3 + 1)) = some (.int .i64 s.f1) ∧ W.cell? (x.add (i * 3 + 2)) = some (.int .i64 s.f2)) ∧ ((Lit.int .i64 s.f0).wf = true ∧ (Lit.int .i64 s.f1).wf = true ∧ (Lit.int .i64 s.f2).wf = true) := by
      intro i hi
      obtain ⟨cs', h1, h2⟩ := hel i hi
      rw [e3] at h1
      obtain ⟨_, hlen, hcell⟩ := World.cells?_some h1
      obtain ⟨y0, y1, y2, q, _, _, g0, g1, g2⟩ := trod_struct3 Try.underlying47 h2
      obtain ⟨c0, c1, c2, rfl⟩ := len3 hlen
      obtain ⟨n0, q0, _, w0⟩ := open_int3 g0
      obtain ⟨n1, q1, _, w1⟩ := open_int3 g1
      obtain ⟨n2, q2, _, w2⟩ := open_int3 g2
      simp [e1] at q0 q1 q2
      subst q0 q1 q2
      refine ⟨⟨n0, n1, n2⟩, ⟨?_, ?_, ?_⟩, w0, w1, w2⟩
      · have := hcell 0 (by omega); rw [Go.Deep.add_add] at this; simpa using this
      · have := hcell 1 (by omega); rw [Go.Deep.add_add] at this; simpa using this
      · have := hcell 2 (by omega); rw [Go.Deep.add_add] at this; simpa using this
    obtain ⟨f, hfs⟩ := choose_lt (α := S47) key
    refine ⟨(List.range len).map f, by simp, hl, ⟨by simp, by unfold maxLen at hm; omega, fun _ => ⟨x, rfl, fun j p hp => ?_⟩⟩, fun s hs => ?_⟩
    · have hj : j < len := by have := (List.getElem?_eq_some_iff.1 hp).1; simpa using this
      simp [hj] at hp
      subst hp
      obtain ⟨⟨a0, a1, a2⟩, _⟩ := hfs j (by omega)
      refine ⟨[.int .i64 (f j).f0, .int .i64 (f j).f1, .int .i64 (f j).f2], rfl, k47_mk W (f j), fun i u hu => ?_⟩
      match i, hu with
      | 0, hu => simp at hu; subst hu; exact a0
      | 1, hu => simp at hu; subst hu; exact a1
      | 2, hu => simp at hu; subst hu; exact a2
      | i + 3, hu => simp at hu
    · simp only [List.mem_map, List.mem_range] at hs
      obtain ⟨i, hi, rfl⟩ := hs
      exact (hfs i (by omega)).2
theorem open_is {W : World} {a : Option Addr} {len cap : Nat} {d : DataW H} {p : List MemPlace} {fuel : Nat} (hf : DataW.trod enc Try.prog W 0 (fun _ => true) true fuel 23 [.slice a len cap] = some (d, p)) :
    ∃ xs : List Int, xs.length = len ∧ len ≤ cap ∧ Kd.C (Kd.int .i64) W a len xs ∧ ∀ x ∈ xs, (Lit.int .i64 x).wf = true := by
  rcases open_ints Try.underlying23 Try.underlying3 (by kernel_rfl) hf with ⟨hcs, _⟩ | ⟨x, l, c, zs, hcs, _, hl, hm, hz, _, hcell, hwz⟩
  · simp at hcs
    obtain ⟨rfl, rfl, rfl⟩ := hcs
    exact ⟨[], rfl, Nat.le_refl _, ⟨rfl, by omega, fun h => by omega⟩, fun x hx => by simp at hx⟩
  · simp at hcs
    obtain ⟨rfl, rfl, rfl⟩ := hcs
    simp only [if_true] at hz
    refine ⟨zs.take len, by rw [List.length_take]; omega, hl, ⟨by rw [List.length_take]; omega, by unfold maxLen at hm; omega, fun _ => ⟨x, rfl, fun j p hp => ?_⟩⟩, fun s hs => hwz s (List.mem_of_mem_take hs)⟩
    have hj : j < len := by have := (List.getElem?_eq_some_iff.1 hp).1; rw [List.length_take] at this; omega
    rw [List.getElem?_take_of_lt hj] at hp
    have h1 := hcell j (by omega)
    rw [List.getD_eq_getElem?_getD, hp] at h1
    refine ⟨[.int .i64 p], rfl, rfl, fun i u hu => ?_⟩
    match i, hu with
    | 0, hu => simp at hu; subst hu; show W.cell? (x.add (j * 1 + 0)) = _; rw [Nat.mul_one, Nat.add_zero]; simpa using h1
    | i + 1, hu => simp at hu
end Go.Proofs.Ytpjobcnfjpbaeaa.E

namespace Go.Proofs.Ytpjobcnfjpbaeaa.E
open Go.ChangeShapes Go.WideShapes Go.ChangeAt Go.RowKit Go.Deep
open Go.Proofs.YtpjobcnfjpbaeaaW.PrintWords Go.Proofs.YtpjobcnfjpbaeaaW.PrintLast Go.Proofs.YtpjobcnfjpbaeaaW.PrintMore
open Go.Proofs.Ytpjobcnfjpbaeaa.PA
variable {H : Type} {enc : TypeId × Value → H}
theorem okWide_array {P : Program} {w : World} {r : Reach} {base : Nat} {t e : TypeId} {n : Nat} {v : Value} (ht : P.underlying t = some (.array n e)) (h : Value.okWide P w r base t v) : ∃ cs, v = .agg cs ∧ cs.size = P.cellsOf t := by
  simp only [Value.okWide, ht] at h
  obtain ⟨cs, h1, h2, _⟩ := h
  exact ⟨cs, h1, h2⟩
set_option maxRecDepth 100000 in
theorem ints_of_array {W : World} {base : Nat} {t n : Nat} {v : Value} {d : DataW H} {p : List MemPlace} (ht : Try.prog.underlying t = some (.array n 3)) (hC : Try.prog.cellsOf t = n) (hv : Value.okWide Try.prog W .any base t v)
    (h : DataW.Trod enc Try.prog W 0 (fun _ => true) true t v d p) : ∃ cs : Array Value, v = .agg cs ∧ cs.size = n ∧ ∀ i, i < n → ∃ x : Int, (v.cells.toList.drop i).take 1 = [.int .i64 x] ∧ (Lit.int .i64 x).wf = true := by
  have e1 : Try.prog.cellsOf 3 = 1 := by kernel_rfl
  obtain ⟨cs, rfl, hsz⟩ := okWide_array ht hv
  obtain ⟨fuel, hf⟩ := h
  obtain ⟨xs, m, _, _, _, hl, hel⟩ := DataW.trod_array ht hf
  refine ⟨cs, rfl, by omega, fun i hi => ?_⟩
  have h1 := hel i hi
  rw [e1, Nat.mul_one] at h1
  rw [List.getElem?_eq_getElem (by omega)] at h1
  obtain ⟨x, h2, _, h3⟩ := open_int3 h1
  exact ⟨x, h2, h3⟩
theorem arr3 : ∀ {cs : Array Value}, cs.size = 3 → ∃ a b c, cs = #[a, b, c] := by
  rintro ⟨l⟩ h
  match l, h with
  | [a, b, c], _ => exact ⟨a, b, c, rfl⟩
set_option maxRecDepth 100000 in
theorem open_arr3 {W : World} {base : Nat} {v : Value} {d : DataW H} {p : List MemPlace} (hv : Value.okWide Try.prog W .any base 45 v) (h : DataW.Trod enc Try.prog W 0 (fun _ => true) true 45 v d p) :
    ∃ a b c : Int, v = .agg #[.int .i64 a, .int .i64 b, .int .i64 c] ∧ (Lit.int .i64 a).wf = true ∧ (Lit.int .i64 b).wf = true ∧ (Lit.int .i64 c).wf = true := by
  obtain ⟨cs, rfl, hsz, hc⟩ := ints_of_array Try.underlying45 (by kernel_rfl) hv h
  obtain ⟨c0, c1, c2, rfl⟩ := arr3 hsz
  obtain ⟨a, ha, wa⟩ := hc 0 (by omega)
  obtain ⟨b, hb, wb⟩ := hc 1 (by omega)
  obtain ⟨c, hcc, wc⟩ := hc 2 (by omega)
  simp [Value.cells] at ha hb hcc
  exact ⟨a, b, c, by rw [ha, hb, hcc], wa, wb, wc⟩
theorem own : ownKnob Try.prog.godebug = none := by kernel_rfl
theorem laidOut : laidOutB Try.prog = true := by kernel_rfl
theorem wf64 {x : Int} (h : (Lit.int .i64 x).wf = true) : -9223372036854775808 ≤ x ∧ x ≤ 9223372036854775807 := bounds_i64 h
end Go.Proofs.Ytpjobcnfjpbaeaa.E

namespace Go.Proofs.Ytpjobcnfjpbaeaa.roomsWorth
open Go.ChangeShapes Go.WideShapes Go.ChangeAt Go.RowKit
open Go.Proofs.Ytpjobcnfjpbaeaa.E
set_option maxRecDepth 100000 in
theorem lifted (os : Os) (started : os.Started) (H : Type) (enc : TypeId × Value → H) :
    ReturnsInHanded {} Try.checked os 6 .any (Rows.roomsWorthSpec.pre6 enc Try.prog Try.f6 Rows.roomsWorthRow.domain false) (Rows.roomsWorthSpec.post enc Try.prog Try.f6 false true false false) := by
  refine returnsInHanded_of_change_sized (C := Try.checked) own started (by kernel_rfl) Try.func6
    (ChangeSpec.witness6 (enc := enc) (C := Try.checked) false ⟨#[], #[.slice none 0 0, .slice none 0 0, .agg #[.int .i64 0, .int .i64 0, .int .i64 0]], []⟩ 8 (by kernel_rfl) (by kernel_rfl) (by kernel_rfl) (by kernel_rfl)) ?_
  intro W base args ds gs before hval0 hW hcnd hsz0 _
  have hval : ∀ (j : Nat) t v, Try.f6.params[j]? = some t → args[j]? = some v → Value.okWide Try.prog W .any base t v := hval0
  have hW' := hW
  obtain ⟨p, q, hA0, hV, rfl, hfz, hnd⟩ := hW
  have hA : DataW.TrodAll enc Try.prog W 0 (fun _ => true) true Try.f6.params.toList args.toList ds p := hA0
  rw [Try.params6] at hA hval
  obtain ⟨v0, vs0, d0, ds0, p0, q0, hargs, rfl, rfl, h0, r0⟩ := trodAll_cons hA
  obtain ⟨v1, vs1, d1, ds1, p1, q1, rfl, rfl, rfl, h1, r1⟩ := trodAll_cons r0
  obtain ⟨v2, vs2, d2, ds2, p2, q2, rfl, rfl, rfl, h2, r2⟩ := trodAll_cons r1
  obtain ⟨rfl, rfl, rfl⟩ := trodAll_nil r2
  obtain rfl : args = #[v0, v1, v2] := by cases args; simp_all
  obtain ⟨rfl, rfl⟩ := trodVars_none hV
  have k0 := h0
  have lt0 : ∀ x ∈ p0, x.block < W.heap.size := by obtain ⟨m, hm⟩ := k0; exact DataW.trod_lt m _ _ _ hm
  obtain ⟨a0, len0, cap0, rfl⟩ := okWide_slice Try.underlying22 (hval 0 22 v0 rfl rfl)
  obtain ⟨x0, rfl, y0, z0, w0⟩ := open_bks h0
  have k1 := h1
  have lt1 : ∀ x ∈ p1, x.block < W.heap.size := by obtain ⟨m, hm⟩ := k1; exact DataW.trod_lt m _ _ _ hm
  obtain ⟨a1, len1, cap1, rfl⟩ := okWide_slice Try.underlying23 (hval 1 23 v1 rfl rfl)
  obtain ⟨x1, rfl, y1, z1, w1⟩ : ∃ xs : List Int, xs.length = len1 ∧ len1 ≤ cap1 ∧ Go.Proofs.YtpjobcnfjpbaeaaW.PrintWords.Kd.C (Go.Proofs.YtpjobcnfjpbaeaaW.PrintWords.Kd.int .i64) W a1 len1 xs ∧ ∀ x ∈ xs, (Lit.int .i64 x).wf = true := by obtain ⟨fuel, hf⟩ := h1; exact open_is hf
  have k2 := h2
  have lt2 : ∀ x ∈ p2, x.block < W.heap.size := by obtain ⟨m, hm⟩ := k2; exact DataW.trod_lt m _ _ _ hm
  obtain ⟨a2, b2, c2, rfl, w2, u2, t2⟩ := open_arr3 (hval 2 45 v2 rfl rfl) h2
  clear hA0 hval0 hsz0
  refine (Go.Proofs.Ytpjobcnfjpbaeaa.A.worth_walk a0 cap0 x0 a1 cap1 x1 a2 b2 c2 W z0 y0 w0 z1 y1 w1 (wf64 w2) (wf64 u2) (wf64 t2)).mono fun e W' ⟨he, bel⟩ => ?_
  subst he
  exact ⟨_, rfl, _, _, _, [], _, [], hW', trodAll_mk1 (shut_bool Try.underlying4 _), (trodAll_cons_mk (Below.trod laidOut (by kernel_rfl) (of_decide_eq_true (by kernel_rfl)) k0 bel lt0) (trodAll_cons_mk (Below.trod laidOut (by kernel_rfl) (of_decide_eq_true (by kernel_rfl)) k1 bel lt1) (trodAll_cons_mk (Below.trod laidOut (by kernel_rfl) (of_decide_eq_true (by kernel_rfl)) k2 bel lt2) trodAll_mk0))), rfl, bel.frame _, fun h => by cases h⟩
theorem over : Rows.roomsWorthRow.holds Try.pinned (OpenSpec.ofChange Rows.roomsWorthSpec) :=
  OpenClaim.holds_of_wide 6 Try.f6 rfl rfl rfl rfl rfl rfl rfl ⟨rfl, rfl, rfl, rfl, rfl⟩ rfl rfl rfl rfl rfl (by kernel_rfl) Try.func6 (by kernel_rfl)
    (of_decide_eq_true (by kernel_rfl)) (by unfold Func.isWrapper; first | (rw [if_pos (by decide +kernel)]; kernel_rfl) | (rw [if_neg (by decide +kernel)]; exact ⟨rfl, rfl⟩))
    (fun os started H enc _ => lifted os started H enc)
theorem proved : Rows.RoomsWorthSaid := over
end Go.Proofs.Ytpjobcnfjpbaeaa.roomsWorth
namespace Go.Proofs.Ytpjobcnfjpbaeaa
theorem roomsWorth_holds : Rows.RoomsWorthSaid := roomsWorth.proved
end Go.Proofs.Ytpjobcnfjpbaeaa
