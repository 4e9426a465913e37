/- What the statements of this seat lean on: the functions that they reach, walked. -/
import Derived.Test.YtakbijpcfnipoaaZj8
set_option linter.unusedSimpArgs false
set_option linter.unusedVariables false

set_option linter.unusedVariables false
set_option linter.unusedSimpArgs false
namespace Go.Proofs.Ytakbijpcfnipoaa.L
open Go.RowKit Go.Proofs.YtakbijpcfnipoaaW.PrintWords Go.Proofs.YtakbijpcfnipoaaW.PrintLast Go.Proofs.YtakbijpcfnipoaaW.PrintMore
open Go.Proofs.Ytakbijpcfnipoaa.PA Go.Proofs.Ytakbijpcfnipoaa.A Go.Proofs.Ytakbijpcfnipoaa.Lf
theorem Env.rebase {w W : World} {I : RI} {T : RT} (h : Env w W I T) : Env W W I T := ⟨Below.refl _ _, h.is, h.ts⟩
theorem Env.lead {w W W' : World} {I I' : RI} {T T' : RT} (h : Env w W I T) (h2 : Env W W' I' T') : Env w W' I' T' := ⟨h.bel.trans (h2.bel.mono h.bel.size), h2.is, h2.ts⟩
theorem dist_E {w W : World} {I : RI} {T : RT} (h : Env w W I T) {A0 A1 : Option Addr} {c0 c1 : Nat} {a b : List Int} (m0 : (A0, c0, a) ∈ I) (m1 : (A1, c1, b) ∈ I) {k : Nat} (hk3 : k ≤ 3) (ha : Pos k a) (hb : Pos k b) {r : Int} (hr : dist a b = r) :
    Calls Try.prog 35 #[.slice A0 a.length c0, .slice A1 b.length c1] W fun e w' => e = .returned (.int .i64 r) ∧ Env w w' I T := by
  obtain ⟨n, hn⟩ := Ev.rounds (distance_ev (by rw [ha.len, hb.len]) (by rw [ha.len]; omega) ha.rng hb.rng)
  rw [hr] at hn
  refine (turndownref07_Distance.calls n A0 c0 a A1 c1 b _ W (h.is _ m0).1 (h.is _ m0).2 (h.is _ m1).1 (h.is _ m1).2 hn).mono ?_
  rintro e w' ⟨rfl, hb⟩
  exact ⟨rfl, h.below hb⟩
theorem pot_f {k : Nat} (hk1 : 1 ≤ k) (hk3 : k ≤ 3) {a b : List Int} (ha : Pos k a) (hb : Pos k b) : lifts_Potential.f a b = some (phi k a b, 0) := by
  have h1 := ha.len
  have h2 := hb.len
  unfold lifts_Potential.f
  rw [posB_iff.2 ⟨by omega, by omega, by rw [h1]; exact ha⟩, posB_iff.2 ⟨by omega, by omega, by rw [h2]; exact hb⟩, decide_eq_true (by omega : a.length = b.length), h1]
  rfl
theorem invs_bd {k : Nat} (hk1 : 1 ≤ k) (hk3 : k ≤ 3) {a : List Int} (ha : Pos k a) : 0 ≤ invs a ∧ invs a ≤ 90 := by
  obtain rfl | rfl | rfl : k = 1 ∨ k = 2 ∨ k = 3 := by omega
  · obtain ⟨x, rfl, _⟩ := pos1 ha
    simp [invs]
  · obtain ⟨x, y, rfl, h1, h2, h3⟩ := pos2 ha
    simp [invs]; omega
  · obtain ⟨x, y, z, rfl, h1, h2, h3, h4⟩ := pos3 ha
    simp [invs]; omega
theorem phi_bd {k : Nat} (hk1 : 1 ≤ k) (hk3 : k ≤ 3) {a b : List Int} (ha : Pos k a) (hb : Pos k b) : 0 ≤ phi k a b ∧ phi k a b ≤ 400 := by
  have h1 := invs_bd hk1 hk3 ha
  have h2 := dist_bd hk3 ha hb
  unfold phi
  obtain rfl | rfl | rfl : k = 1 ∨ k = 2 ∨ k = 3 := by omega
  all_goals omega
theorem compete_sum {k : Nat} (hk1 : 1 ≤ k) (hk3 : k ≤ 3) : ∀ {c : List Int} {s t : List Int} {L : List (List Int)}, Pos k s → Pos k t → Fls c → Sched k c L → cost s (runL Lf.serve s c) ≤ (k : Int) * cost t L + phi k s t
  | [], s, t, [], hs, ht, _, _ => by
    have := (phi_bd hk1 hk3 hs ht).1
    simp [runL, cost]; exact this
  | f :: c, s, t, o :: L, hs, ht, hc, h => by
    have hf := hc f List.mem_cons_self
    have h1 := compete hk1 hk3 hs ht h.1 h.2.1
    have h2 := compete_sum hk1 hk3 (c := c) (s := Lf.serve s f) (t := o) (L := L) (serve_pos hk1 hk3 hs hf.1 hf.2).1 h.1 (fun g hg => hc g (List.mem_cons_of_mem _ hg)) h.2.2
    show dist s (Lf.serve s f) + cost (Lf.serve s f) (runL Lf.serve (Lf.serve s f) c) ≤ (k : Int) * (dist t o + cost o L) + phi k s t
    rw [Int.mul_add]
    omega
  | [], _, _, _ :: _, _, _, _, h => h.elim
  | _ :: _, _, _, [], _, _, _, h => h.elim
theorem runL_at (st : List Int → Int → List Int) (s : List Int) (c : List Int) : ∀ i, i ≤ c.length → pR s (runL st s c) i = pth st s c i := by
  intro i hi
  cases i with
  | zero => rfl
  | succ i =>
    show (runL st s c).getD i [] = _
    rw [← outs_pth]; unfold outs
    rw [List.getD_eq_getElem?_getD, List.getElem?_map, List.getElem?_range (by omega)]; rfl
set_option maxHeartbeats 16000000 in
set_option maxRecDepth 100000 in
theorem competes_c (A0 : Option Addr) (c0 : Nat) (l0 : List Int) (A1 : Option Addr) (c1 : Nat) (l1 : List Int) (A2 : Option Addr) (c2 : Nat) (l2 : List (List Int)) (w : World) (h0 : Kd.C (Kd.int .i64) w A0 l0.length l0) (hc0 : l0.length ≤ c0) (h1 : Kd.C (Kd.int .i64) w A1 l1.length l1) (hc1 : l1.length ≤ c1) (h2 : Kd.C (Kd.slice 3 (Kd.int .i64)) w A2 l2.length l2) (hc2 : l2.length ≤ c2) :
    Calls Try.prog 7 #[.slice A0 l0.length c0, .slice A1 l1.length c1, .slice A2 l2.length c2] w fun e w' => e = .returned (.bool true) ∧ Below w.heap.size w w' := by
  have HE0 : Hid (Env w w [(A0, c0, l0), (A1, c1, l1)] [(A2, c2, l2)]) := Lib.hid ((((Env.start w).addI h1 hc1).addI h0 hc0).addT h2 hc2)
  have hkb := liftF_bd l0
  obtain ⟨k, hk⟩ : ∃ k : Nat, liftF l0 = (k : Int) := ⟨(liftF l0).toNat, by omega⟩
  rw [hk] at hkb
  have hk1 : 1 ≤ k := by omega
  have hk3 : k ≤ 3 := by omega
  obtain ⟨s, hsE, hsS, hsP⟩ := tame_ev hk3 l0
  have hsp := tame_pos hk3 hsS hsP
  obtain ⟨c, hcE⟩ : ∃ c, clF l1 20 = c := ⟨_, rfl⟩
  have hcf : Fls c := by rw [← hcE]; exact clF_fls _ _
  have hcl : c.length ≤ 20 := by rw [← hcE]; exact clF_len _ _
  have hh := hall_of hk1 hk3 hsp hcf (by omega)
  have hlen := hsp.len
  obtain ⟨Wl, hWE, hWl, hWp⟩ := served_ev hk1 hk3 l2 hcf (by omega)
  have hSW : Serves s.length c Wl := ⟨hWl, by rw [hlen]; exact hWp⟩
  have hsum := compete_sum hk1 hk3 (s := s) (t := s) (L := Wl) hsp hsp hcf (Serves.sched ⟨hWl, hWp⟩)
  have hpth := run_pos (k := k) (st := Lf.serve) (fun s' f hs hf => (serve_pos hk1 hk3 hs hf.1 hf.2).1) hsp hcf
  have hwas : ∀ i, i ≤ c.length → Pos k (pR s Wl i) := fun i hi => by
    cases i with
    | zero => exact hsp
    | succ i => exact (hWp i (by omega)).1
  have hcb : ∀ i, i ≤ c.length → 0 ≤ costs (pth Lf.serve s c) i ∧ costs (pth Lf.serve s c) i ≤ 90 * i := fun i hi => costs_bd hk3 (n := c.length) (fun j _ => hpth j) i hi
  have HSTEP : Hid (∀ i, i < c.length → dist (pth Lf.serve s c i) (pth Lf.serve s c (i + 1)) + phi k (pth Lf.serve s c (i + 1)) (pR s Wl (i + 1)) - phi k (pth Lf.serve s c i) (pR s Wl i) ≤ (k : Int) * dist (pR s Wl i) (pR s Wl (i + 1))) := Lib.hid (fun i hi => by
    rw [pth_succ Lf.serve s hi]
    have hf : Fl (c.getD i 0) := fl_getD hcf hi
    exact compete hk1 hk3 (hpth i) (hwas i (by omega)) (hwas (i + 1) hi) (hWp i hi).2)
  have HLI := Lib.hid hk
  have HTA := Lib.hid hsE
  have HCL := Lib.hid hcE
  have HWE := Lib.hid hWE
  have HF2 : Hid (lifts_Careful.f s c = some (runL Lf.serve s c, cost s (runL Lf.serve s c), 0)) := Lib.hid (by unfold lifts_Careful.f; rw [hh]; rfl)
  have HC5 := Lib.hid (hSW.cost hh)
  have HCOST : Hid (costs (pth Lf.serve s c) c.length = cost s (runL Lf.serve s c)) := Lib.hid (costs_pth Lf.serve c s)
  have HXI : Hid (∀ i, i < c.length → (runL Lf.serve s c).getD i [] = pth Lf.serve s c (i + 1)) := Lib.hid (fun i hi => runL_at Lf.serve s c (i + 1) hi)
  have HXL := Lib.hid (run_len Lf.serve s c)
  have HWL := Lib.hid hWl
  have HPP := Lib.hid hpth
  have HWP := Lib.hid hwas
  have HSP := Lib.hid hsp
  have HCB := Lib.hid hcb
  have HPOT := Lib.hid (fun a b (ha : Pos k a) (hb : Pos k b) => pot_f hk1 hk3 ha hb)
  have HPB := Lib.hid (fun a b (ha : Pos k a) (hb : Pos k b) => phi_bd hk1 hk3 ha hb)
  have HPN : Hid (∀ a, Pos k a → posB a = true) := Lib.hid (fun a ha => by have := ha.len; exact posB_iff.2 ⟨by omega, by omega, by rw [this]; exact ha⟩)
  obtain ⟨X, hX⟩ : ∃ X, runL Lf.serve s c = X := ⟨_, rfl⟩
  obtain ⟨pp, hpp⟩ : ∃ p, p = pth Lf.serve s c := ⟨_, rfl⟩
  rw [hX] at HF2 HCOST HXI HXL hsum
  rw [← hpp] at HCOST HXI HPP HCB HSTEP
  have hp0 : pp 0 = s := by rw [hpp]; rfl
  have HP0 := Lib.hid hp0
  obtain ⟨qx, e2⟩ : ∃ q, cost s X = q := ⟨_, rfl⟩
  obtain ⟨qw, e5⟩ : ∃ q, cost s Wl = q := ⟨_, rfl⟩
  obtain ⟨ps, e6⟩ : ∃ q, phi k s s = q := ⟨_, rfl⟩
  rw [e2] at HF2 HCOST hsum
  rw [e5] at HC5 hsum
  rw [e6] at hsum
  have hpsb : 0 ≤ ps ∧ ps ≤ 400 := by rw [← e6]; exact HPB.out s s hsp hsp
  have hqwb : 0 ≤ qw ∧ qw ≤ 90 * 20 := by
    have h1 := costs_bd hk3 (p := pR s Wl) (n := c.length) hwas Wl.length (by omega)
    rw [costs_pR, e5] at h1
    omega
  have HE6 := Lib.hid e6
  have hqxb : 0 ≤ qx ∧ qx ≤ 1800 := by
    have := HCB.out c.length (Nat.le_refl _)
    rw [HCOST.out] at this; omega
  obtain ⟨kq, hkq⟩ : ∃ x, (k : Int) * qw = x := ⟨_, rfl⟩
  rw [hkq] at hsum
  have hkqb : 0 ≤ kq ∧ kq ≤ 5400 := by
    rw [← hkq]
    obtain rfl | rfl | rfl : k = 1 ∨ k = 2 ∨ k = 3 := by omega
    all_goals omega
  have HKQ : Hid (IntKind.i64.wrap ((k : Int) * qw) = kq) := Lib.hid (by rw [hkq]; exact IntWalk.i64_in _ (by omega))
  clear hX hpp hp0 e2 e5 e6 hSW hWE hWl hWp hlen hsE hsS hsP hsp hcE hcf hh hk h0 h1 h2 hc0 hc1 hc2 hkb hpth hwas hcb hkq
  go_enter Try.func7, Try.ntmps7
  go_upto_region 2 with (go_at_call 30; (with_reducible refine (lifted_E HE0.out (A := A0) (c := c0) (l := l0) (by simp) HLI.out).mono ?_); rintro e w1 ⟨rfl, hE1⟩)
  have HE1 := Lib.hid hE1
  clear hE1
  have HM20 : Hid (∀ W I T, Env w W I T → (A1, c1, l1) ∈ I → Calls Try.prog 32 #[.slice A1 l1.length c1, .int .i64 20] W fun e w' => ∃ A' c', e = .returned (.slice A' c.length c') ∧ Env w w' ((A', c', c) :: I) T) := Lib.hid (fun W I T h hm => made_E h hm (m := 20) (by omega) HCL.out)
  go_upto_region 3 with (first | (go_at_call 31; (with_reducible refine (tame_E HE1.out (A := A0) (c := c0) (l := l0) (by simp) HTA.out).mono ?_); rintro e w2 ⟨As, cs, rfl, hE2⟩) | (go_at_call 32; (with_reducible refine (HM20.out _ _ _ hE2 (by simp)).mono ?_); rintro e w3 ⟨Ac, cc, rfl, hE3⟩))
  have HE3 := Lib.hid hE3
  clear hE2 hE3
  go_upto_region 4 with (go_at_call 33; (with_reducible refine (served_E HE3.out (A := A2) (c := c2) (l := l2) (A1 := Ac) (c1 := cc) (cs := c) (by simp) (by simp) HWE.out).mono ?_); rintro e w4 ⟨Aw, cw, rfl, hE4⟩)
  have HE4 := Lib.hid hE4
  clear hE4
  go_upto_region 5 with (go_at_call 34; (with_reducible refine (careful_E HE4.out (A0 := As) (c0 := cs) (s := s) (A1 := Ac) (c1 := cc) (c := c) (by simp) (by simp) HF2.out).mono ?_); rintro e w6 ⟨Ax, cx, rfl, hE6⟩)
  have HE6' := Lib.hid hE6
  clear hE6
  go_upto_region 6 with (go_at_call 16; (with_reducible refine (cost_E HE6'.out (A0 := As) (c0 := cs) (s := s) (A1 := Ac) (c1 := cc) (c := c) (by simp) (by simp) (A2 := Aw) (c2 := cw) (l := Wl) (by simp) HC5.out).mono ?_); rintro e w9 ⟨rfl, hE9⟩)
  have HE9 := Lib.hid hE9
  clear hE9
  have hxl1 : ((X.length : Int) != (c.length : Int)) = false := by rw [HXL.out]; simp
  have hxl2 : ((X.length : Int) == (c.length : Int)) = true := by rw [HXL.out]; simp
  go_wp2_with fail
  clear hxl1 hxl2
  have HEI : Hid (Env w w9 [(As, cs, pp 0), (As, cs, pR s Wl 0), (Ac, cc, c), (As, cs, s), (A0, c0, l0), (A1, c1, l1)] [(Ax, cx, X), (Aw, cw, Wl), (A2, c2, l2)]) := Lib.hid (by
    rw [HP0.out]
    have h := HE9.out
    have hm := h.is (As, cs, s) (by simp)
    exact (h.addI hm.1 hm.2).addI hm.1 hm.2)
  go_loopw [16, 17, 18, 19] (fun v16 v17 v18 v19 wr => ∃ (i : Nat) (An : Option Addr) (cn : Nat) (Ao : Option Addr) (co : Nat), v19 = .int .i64 (i : Int) ∧ v16 = .slice An (pp i).length cn ∧ v17 = .slice Ao (pR s Wl i).length co ∧ v18 = .int .i64 (costs pp i) ∧ i ≤ c.length ∧ Hid (Env w wr [(An, cn, pp i), (Ao, co, pR s Wl i), (Ac, cc, c), (As, cs, s), (A0, c0, l0), (A1, c1, l1)] [(Ax, cx, X), (Aw, cw, Wl), (A2, c2, l2)])) (fun _ _ _ v19 _ => c.length - (intOf v19).toNat)
  case atStart => exact ⟨0, As, cs, As, cs, rfl, by rw [HP0.out], rfl, rfl, Nat.zero_le _, HEI⟩
  case round =>
    rename World => wr
    obtain ⟨i, An, cn, Ao, co, rfl, rfl, rfl, rfl, hi, HER⟩ := hrel
    clear HEI
    by_cases hlt : i < c.length
    · have hlt' : (i : Int) < (c.length : Int) := by omega
      have hi0 : (0 : Int) ≤ (i : Int) := by omega
      obtain ⟨hcxw, hAx⟩ : (∃ ax Ar cr, Ax = some ax ∧ wr.cell? (ax.add i) = some (.slice Ar (pp (i + 1)).length cr) ∧ (pp (i + 1)).length ≤ cr ∧ Kd.C (Kd.int .i64) wr Ar (pp (i + 1)).length (pp (i + 1))) ∧ True := ⟨by
        have hm := HER.out.ts (Ax, cx, X) (by simp)
        obtain ⟨ad, A', c', e1, e2, e3, e4⟩ := at_L1 hm.1 (i : Int) (by omega) (by rw [HXL.out]; omega)
        have e5 : rd_L1 X (i : Int) = pp (i + 1) := HXI.out i hlt
        rw [e5] at e2 e3 e4
        exact ⟨ad, A', c', e1, e2, e3, e4⟩, trivial⟩
      obtain ⟨hcww, hAw⟩ : (∃ ax Ar cr, Aw = some ax ∧ wr.cell? (ax.add i) = some (.slice Ar (pR s Wl (i + 1)).length cr) ∧ (pR s Wl (i + 1)).length ≤ cr ∧ Kd.C (Kd.int .i64) wr Ar (pR s Wl (i + 1)).length (pR s Wl (i + 1))) ∧ True := ⟨by
        have hm := HER.out.ts (Aw, cw, Wl) (by simp)
        obtain ⟨ad, A', c', e1, e2, e3, e4⟩ := at_L1 hm.1 (i : Int) (by omega) (by rw [HWL.out]; omega)
        have e5 : rd_L1 Wl (i : Int) = pR s Wl (i + 1) := rfl
        rw [e5] at e2 e3 e4
        exact ⟨ad, A', c', e1, e2, e3, e4⟩, trivial⟩
      obtain ⟨ax, Ar, cr, rfl, hx2, hx3, hx4⟩ := hcxw
      obtain ⟨aw, Ag, cg, rfl, hw2, hw3, hw4⟩ := hcww
      have HR0 : Hid (Env wr wr [(Ar, cr, pp (i + 1)), (Ag, cg, pR s Wl (i + 1)), (An, cn, pp i), (Ao, co, pR s Wl i), (Ac, cc, c), (As, cs, s), (A0, c0, l0), (A1, c1, l1)] [(some ax, cx, X), (some aw, cw, Wl), (A2, c2, l2)]) := Lib.hid (by
        have h : Env wr wr [(An, cn, pp i), (Ao, co, pR s Wl i), (Ac, cc, c), (As, cs, s), (A0, c0, l0), (A1, c1, l1)] [(some ax, cx, X), (some aw, cw, Wl), (A2, c2, l2)] := ⟨Below.refl _ _, HER.out.is, HER.out.ts⟩
        exact (h.addI hw4 hw3).addI hx4 hx3)
      have HX0 : Hid (∀ W, Below wr.heap.size wr W → W.cell? (ax.add i) = some (.slice Ar (pp (i + 1)).length cr) ∧ W.cell? (aw.add i) = some (.slice Ag (pR s Wl (i + 1)).length cg)) := Lib.hid (fun W hW =>
        ⟨(hW.cell (World.block_lt_of_cell? wr _ hx2)).trans hx2, (hW.cell (World.block_lt_of_cell? wr _ hw2)).trans hw2⟩)
      have HBEL := Lib.hid HER.out.bel
      have hpa := HPP.out i
      have hpb := HPP.out (i + 1)
      have hpd := HWP.out i (by omega)
      have hpg := HWP.out (i + 1) hlt
      have hst := HSTEP.out i hlt
      have hqb := HCB.out i (by omega)
      have HCS : Hid (costs pp (i + 1) = costs pp i + dist (pp i) (pp (i + 1))) := Lib.hid rfl
      have HEQ : Hid (∀ Wf, Env wr Wf [(Ar, cr, pp (i + 1)), (Ag, cg, pR s Wl (i + 1)), (An, cn, pp i), (Ao, co, pR s Wl i), (Ac, cc, c), (As, cs, s), (A0, c0, l0), (A1, c1, l1)] [(some ax, cx, X), (some aw, cw, Wl), (A2, c2, l2)] → Env w Wf [(Ar, cr, pp (i + 1)), (Ag, cg, pR s Wl (i + 1)), (Ac, cc, c), (As, cs, s), (A0, c0, l0), (A1, c1, l1)] [(some ax, cx, X), (some aw, cw, Wl), (A2, c2, l2)]) := Lib.hid (fun Wf h =>
        ⟨HBEL.out.trans (h.bel.mono HBEL.out.size), fun r hr => h.is r (by simp only [List.mem_cons, List.not_mem_nil, or_false] at hr ⊢; rcases hr with h | h | h | h | h | h <;> simp only [h, true_or, or_true]), h.ts⟩)
      obtain ⟨a, ha⟩ : ∃ a, pp i = a := ⟨_, rfl⟩
      obtain ⟨b, hb⟩ : ∃ a, pp (i + 1) = a := ⟨_, rfl⟩
      obtain ⟨d, hd⟩ : ∃ a, pR s Wl i = a := ⟨_, rfl⟩
      obtain ⟨g, hg⟩ : ∃ a, pR s Wl (i + 1) = a := ⟨_, rfl⟩
      obtain ⟨qc, hqc⟩ : ∃ a, costs pp i = a := ⟨_, rfl⟩
      rw [ha] at hpa
      rw [hb] at hpb
      rw [hd] at hpd
      rw [hg] at hpg
      rw [ha, hb, hd, hg] at hst HR0
      rw [hb, hg] at HX0
      rw [ha, hb, hqc] at HCS
      rw [ha, hb, hd, hg] at HEQ
      rw [hqc] at hqb
      have HB := Lib.hid hb
      have HG := Lib.hid hg
      rw [ha, hd, hqc]
      obtain ⟨p1, hp1⟩ : ∃ x, phi k a d = x := ⟨_, rfl⟩
      obtain ⟨p2, hp2⟩ : ∃ x, phi k b g = x := ⟨_, rfl⟩
      obtain ⟨st, hstt⟩ : ∃ x, dist a b = x := ⟨_, rfl⟩
      obtain ⟨dd, hdd⟩ : ∃ x, dist d g = x := ⟨_, rfl⟩
      have HP1 : Hid (lifts_Potential.f a d = some (p1, 0)) := Lib.hid (by rw [← hp1]; exact HPOT.out a d hpa hpd)
      have HP2 : Hid (lifts_Potential.f b g = some (p2, 0)) := Lib.hid (by rw [← hp2]; exact HPOT.out b g hpb hpg)
      have HD1 := Lib.hid hstt
      have HD2 := Lib.hid hdd
      have HPA := Lib.hid hpa
      have HPB2 := Lib.hid hpb
      have HPD := Lib.hid hpd
      have HPG := Lib.hid hpg
      have b1 := HPB.out a d hpa hpd
      have b2 := HPB.out b g hpb hpg
      have b3 := dist_bd hk3 hpa hpb
      have b4 := dist_bd hk3 hpd hpg
      rw [hp1] at b1 hst
      rw [hp2] at b2 hst
      rw [hstt] at b3 hst HCS
      rw [hdd] at b4 hst
      have HPNB := Lib.hid (HPN.out b hpb)
      have hbk1 : ((b.length : Int) != (k : Int)) = false := by rw [hpb.len]; simp
      have hbk2 : ((b.length : Int) == (k : Int)) = true := by rw [hpb.len]; simp
      have hbl : b.length ≤ 1000 := by rw [hpb.len]; omega
      obtain ⟨kd, hkd⟩ : ∃ x, (k : Int) * dd = x := ⟨_, rfl⟩
      rw [hkd] at hst
      have hkdb : 0 ≤ kd ∧ kd ≤ 270 := by
        rw [← hkd]
        obtain rfl | rfl | rfl : k = 1 ∨ k = 2 ∨ k = 3 := by omega
        all_goals omega
      have HKD : Hid (IntKind.i64.wrap ((k : Int) * dd) = kd) := Lib.hid (by rw [hkd]; exact IntWalk.i64_in _ (by omega))
      have hcc1 := (HX0.out wr (Below.refl _ _)).1
      clear ha hb hd hg hqc hpa hpb hpd hpg hp1 hp2 hstt hdd hkd hx2 hx3 hx4 hw2 hw3 hw4 HER hAx hAw
      have hil : (i : Int) < (X.length : Int) := by rw [HXL.out]; omega
      have hil2 : (i : Int) < (Wl.length : Int) := by rw [HWL.out]; omega
      have hil3 : i < X.length := by rw [HXL.out]; omega
      have hil4 : i < Wl.length := by rw [HWL.out]; omega
      go_upto_region 15 with (go_at_call 17; (with_reducible refine (positions_E HR0.out (A0 := Ar) (c0 := cr) (s := b) (by simp) hbl HPNB.out).mono ?_); rintro e w1 ⟨rfl, hF1⟩; obtain ⟨hcc1, _⟩ := HX0.out w1 hF1.bel)
      have HF1 := Lib.hid hF1
      clear hF1 hcc1 hbk1 hbk2
      go_upto_region 16 with (go_at_call 28; (with_reducible refine (pot_E HF1.out (A0 := An) (c0 := cn) (s := a) (A1 := Ao) (c1 := co) (c := d) (by simp) (by simp) HP1.out).mono ?_); rintro e w2 ⟨rfl, hF2⟩)
      have HF2' := Lib.hid hF2
      have HX : Hid (∀ W, Below w2.heap.size w2 W → W.cell? (ax.add i) = some (.slice Ar b.length cr) ∧ W.cell? (aw.add i) = some (.slice Ag g.length cg)) := Lib.hid (fun W hW => HX0.out W (HF2'.out.bel.trans (hW.mono HF2'.out.bel.size)))
      clear hF2
      apply R.wp_region_tree2 14 (.fl 0 (.fl 1 (.fl 2 (.fl 3 (.fl 4 (.fl 5 (.fl 6 (.fl 7 (.go 8 (.go 9 (.fl 10 (.fl 11 (.go 12 (.go 13 .nil)))))))))))))) (fun w' => Below w2.heap.size w2 w')
      case hm => kernel_rfl
      case hB => kernel_rfl
      case hQ => exact fun _ _ d _ _ h => by cases d <;> exact h
      case hS => exact (Below.refl _ _).drew
      case h =>
      refine R.wpTree2_fl (.slice (some ax) X.length cx) rfl rfl (fun w' hS => by obtain ⟨z1, z2⟩ := HX.out w' hS; go_simp) ?_
      try go_frame
      refine R.wpTree2_fl (.int .i64 (i : Int)) rfl rfl (fun w' hS => by obtain ⟨z1, z2⟩ := HX.out w' hS; go_simp) ?_
      try go_frame
      refine R.wpTree2_fl (.pointer (some (ax.add i))) rfl rfl (fun w' hS => by obtain ⟨z1, z2⟩ := HX.out w' hS; go_simp) ?_
      try go_frame
      refine R.wpTree2_fl (.slice Ar b.length cr) rfl rfl (fun w' hS => by obtain ⟨z1, z2⟩ := HX.out w' hS; go_simp) ?_
      try go_frame
      refine R.wpTree2_fl (.slice (some aw) Wl.length cw) rfl rfl (fun w' hS => by obtain ⟨z1, z2⟩ := HX.out w' hS; go_simp) ?_
      try go_frame
      refine R.wpTree2_fl (.int .i64 (i : Int)) rfl rfl (fun w' hS => by obtain ⟨z1, z2⟩ := HX.out w' hS; go_simp) ?_
      try go_frame
      refine R.wpTree2_fl (.pointer (some (aw.add i))) rfl rfl (fun w' hS => by obtain ⟨z1, z2⟩ := HX.out w' hS; go_simp) ?_
      try go_frame
      refine R.wpTree2_fl (.slice Ag g.length cg) rfl rfl (fun w' hS => by obtain ⟨z1, z2⟩ := HX.out w' hS; go_simp) ?_
      try go_frame
      refine R.wpTree2_go rfl rfl true rfl (fun K hK => ?_)
      go_simp
      refine (pot_E (HF2'.out.below (Below.refl _ _).drew).rebase (A0 := Ar) (c0 := cr) (s := b) (A1 := Ag) (c1 := cg) (c := g) (by simp) (by simp) HP2.out).mono ?_
      rintro e w3 ⟨rfl, hF3⟩
      have HF3' := Lib.hid ((HF2'.out.below (Below.refl _ _).drew).lead hF3)
      have HS4 : Hid (Below w2.heap.size w2 w3) := Lib.hid ((Below.refl _ w2).drew.trans hF3.bel)
      refine hK _ _ (fun _ => HS4.out) ?_
      clear hK K hF3
      try go_frame
      refine R.wpTree2_go rfl rfl true rfl (fun K hK => ?_)
      go_simp
      refine hK _ _ (fun _ => HS4.out) ?_
      clear hK K
      try go_frame
      refine R.wpTree2_fl (.int .i64 p2) rfl rfl (fun w' hS => by go_simp) ?_
      try go_frame
      refine R.wpTree2_fl (.int .i64 0) rfl rfl (fun w' hS => by go_simp) ?_
      try go_frame
      refine R.wpTree2_go rfl rfl true rfl (fun K hK => ?_)
      go_simp
      refine hK _ _ (fun _ => HS4.out) ?_
      clear hK K
      try go_frame
      refine R.wpTree2_go rfl rfl true rfl (fun K hK => ?_)
      go_simp
      refine hK _ _ (fun _ => HS4.out) ?_
      clear hK K
      try go_frame
      refine R.wpTree2_nil ?_
      try go_frame
      obtain ⟨hcc3, _⟩ := HX0.out w3 HF3'.out.bel
      go_upto_region 18 with (go_at_call 35; (with_reducible refine (dist_E HF3'.out (A0 := An) (c0 := cn) (a := a) (A1 := Ar) (c1 := cr) (b := b) (by simp) (by simp) hk3 HPA.out HPB2.out HD1.out).mono ?_); rintro e w4 ⟨rfl, hF4⟩)
      have HF4 := Lib.hid hF4
      obtain ⟨_, hcw4⟩ := HX0.out w4 hF4.bel
      have hkd1 := HKD.out
      have hnk : ¬ st + p2 - p1 > kd := by omega
      clear hF4 hcc3
      go_upto_region 21 with (go_at_call 35; (with_reducible refine (dist_E HF4.out (A0 := Ao) (c0 := co) (a := d) (A1 := Ag) (c1 := cg) (b := g) (by simp) (by simp) hk3 HPD.out HPG.out HD2.out).mono ?_); rintro e w5 ⟨rfl, hF5⟩)
      have HF5 := Lib.hid hF5
      obtain ⟨hcc5, hcw5⟩ := HX0.out w5 hF5.bel
      have HX5 : Hid (∀ W, Below w5.heap.size w5 W → W.cell? (ax.add i) = some (.slice Ar b.length cr) ∧ W.cell? (aw.add i) = some (.slice Ag g.length cg)) := Lib.hid (fun W hW => HX0.out W (HF5.out.bel.trans (hW.mono HF5.out.bel.size)))
      clear hF5 hkd1 hcw4 hcc5 hcw5
      apply R.wp_region_tree2 10 (.fl 0 (.fl 1 (.fl 2 (.fl 3 (.fl 4 (.fl 5 (.fl 6 (.fl 7 (.go 8 (.go 9 .nil)))))))))) (fun w' => Below w5.heap.size w5 w')
      case hm => kernel_rfl
      case hB => kernel_rfl
      case hQ => exact fun _ _ d _ _ h => by cases d <;> exact h
      case hS => exact (Below.refl _ _).drew
      case h =>
      refine R.wpTree2_fl (.slice (some ax) X.length cx) rfl rfl (fun w' hS => by obtain ⟨z1, z2⟩ := HX5.out w' hS; go_simp) ?_
      try go_frame
      refine R.wpTree2_fl (.int .i64 (i : Int)) rfl rfl (fun w' hS => by obtain ⟨z1, z2⟩ := HX5.out w' hS; go_simp) ?_
      try go_frame
      refine R.wpTree2_fl (.pointer (some (ax.add i))) rfl rfl (fun w' hS => by obtain ⟨z1, z2⟩ := HX5.out w' hS; go_simp) ?_
      try go_frame
      refine R.wpTree2_fl (.slice Ar b.length cr) rfl rfl (fun w' hS => by obtain ⟨z1, z2⟩ := HX5.out w' hS; go_simp) ?_
      try go_frame
      refine R.wpTree2_fl (.slice (some aw) Wl.length cw) rfl rfl (fun w' hS => by obtain ⟨z1, z2⟩ := HX5.out w' hS; go_simp) ?_
      try go_frame
      refine R.wpTree2_fl (.int .i64 (i : Int)) rfl rfl (fun w' hS => by obtain ⟨z1, z2⟩ := HX5.out w' hS; go_simp) ?_
      try go_frame
      refine R.wpTree2_fl (.pointer (some (aw.add i))) rfl rfl (fun w' hS => by obtain ⟨z1, z2⟩ := HX5.out w' hS; go_simp) ?_
      try go_frame
      refine R.wpTree2_fl (.slice Ag g.length cg) rfl rfl (fun w' hS => by obtain ⟨z1, z2⟩ := HX5.out w' hS; go_simp) ?_
      try go_frame
      have HS6 : Hid (Below w5.heap.size w5 w5.drew) := Lib.hid (Below.refl _ _).drew
      refine R.wpTree2_go rfl rfl true rfl (fun K hK => ?_)
      go_simp
      refine hK _ _ (fun _ => HS6.out) ?_
      clear hK K
      try go_frame
      refine R.wpTree2_go rfl rfl true rfl (fun K hK => ?_)
      go_simp
      refine hK _ _ (fun _ => HS6.out) ?_
      clear hK K
      try go_frame
      refine R.wpTree2_nil ?_
      try go_frame
      have HEND : Hid (Env w w5.drew [(Ar, cr, pp (i + 1)), (Ag, cg, pR s Wl (i + 1)), (Ac, cc, c), (As, cs, s), (A0, c0, l0), (A1, c1, l1)] [(some ax, cx, X), (some aw, cw, Wl), (A2, c2, l2)]) := Lib.hid (by
        rw [HB.out, HG.out]
        exact HEQ.out _ (HF5.out.below (Below.refl _ _).drew))
      clear hil hil2 hil3 hil4
      go_wp2_with fail
      exact ⟨⟨i + 1, Ar, cr, Ag, cg, by go_num, by rw [HB.out], by rw [HG.out], by rw [HCS.out], by omega, HEND⟩, by simp [intOf]; omega⟩
    · obtain rfl : i = c.length := by omega
      have hge : ¬ ((c.length : Nat) : Int) < ((c.length : Nat) : Int) := by omega
      have HPS : Hid (lifts_Potential.f s s = some (ps, 0)) := Lib.hid (by rw [← HE6.out]; exact HPOT.out s s HSP.out HSP.out)
      have HER2 := Lib.hid HER.out
      rw [HCOST.out]
      have hkq := HKQ.out
      clear HER
      go_upto_region 23 with (go_at_call 28; (with_reducible refine (pot_E HER2.out (A0 := As) (c0 := cs) (s := s) (A1 := As) (c1 := cs) (c := s) (by simp) (by simp) HPS.out).mono ?_); rintro e w7 ⟨rfl, hF7⟩)
      have HF7 := Lib.hid hF7
      clear hF7
      go_wp2_with (go_at_call 19; (with_reducible refine (awake_E HF7.out).mono ?_); rintro e w8 ⟨rfl, hE8⟩)
      go_ret
      exact ⟨rfl, hE8.bel⟩
end Go.Proofs.Ytakbijpcfnipoaa.L
