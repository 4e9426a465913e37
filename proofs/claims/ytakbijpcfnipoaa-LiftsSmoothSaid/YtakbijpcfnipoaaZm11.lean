/- What the statements of this seat lean on: the functions that they reach, walked. -/
import Derived.Test.YtakbijpcfnipoaaZm10
set_option linter.unusedSimpArgs false
set_option linter.unusedVariables false

set_option linter.unusedVariables false
set_option linter.unusedSimpArgs false
namespace Go.Proofs.Ytakbijpcfnipoaa.L
open Go.RowKit Go.Proofs.YtakbijpcfnipoaaW.PrintWords Go.Proofs.YtakbijpcfnipoaaW.PrintLast Go.Proofs.YtakbijpcfnipoaaW.PrintMore
open Go.Proofs.Ytakbijpcfnipoaa.PA Go.Proofs.Ytakbijpcfnipoaa.A Go.Proofs.Ytakbijpcfnipoaa.Lf
theorem work_f {k : Nat} (hk1 : 1 ≤ k) (hk3 : k ≤ 3) {s c a : List Int} (hs : Pos k s) (ha : Pos k a) (hh : hallB s c = true) : lifts_Work.f s c a = some (works k (dist s) c a, 0) := by
  have h1 := hs.len
  have h2 := ha.len
  unfold lifts_Work.f
  rw [hh, posB_iff.2 ⟨by omega, by omega, by rw [h2]; exact ha⟩, decide_eq_true (by omega : s.length = a.length), h1]
  rfl
set_option maxHeartbeats 16000000 in
set_option maxRecDepth 100000 in
theorem smooth_c (A0 : Option Addr) (c0 : Nat) (l0 : List Int) (A1 : Option Addr) (c1 : Nat) (l1 : List Int) (A2 : Option Addr) (c2 : Nat) (l2 : List Int) (A3 : Option Addr) (c3 : Nat) (l3 : List Int) (w : World) (h0 : Kd.C (Kd.int .i64) w A0 l0.length l0) (hc0 : l0.length ≤ c0) (h1 : Kd.C (Kd.int .i64) w A1 l1.length l1) (hc1 : l1.length ≤ c1) (h2 : Kd.C (Kd.int .i64) w A2 l2.length l2) (hc2 : l2.length ≤ c2) (h3 : Kd.C (Kd.int .i64) w A3 l3.length l3) (hc3 : l3.length ≤ c3) :
    Calls Try.prog 8 #[.slice A0 l0.length c0, .slice A1 l1.length c1, .agg #[.slice A2 l2.length c2, .slice A3 l3.length c3]] w fun e w' => e = .returned (.bool true) ∧ Below w.heap.size w w' := by
  have HE00 : Hid (Env w w [(A0, c0, l0), (A1, c1, l1), (A2, c2, l2), (A3, c3, l3)] []) := Lib.hid (((((Env.start w).addI h3 hc3).addI h2 hc2).addI h1 hc1).addI h0 hc0)
  have hkb := liftF_bd l0
  obtain ⟨k, hk⟩ : ∃ k : Nat, liftF l0 = (k : Int) := ⟨(liftF l0).toNat, by omega⟩
  rw [hk] at hkb
  have hk1 : 1 ≤ k := by omega
  have hk3 : k ≤ 3 := by omega
  obtain ⟨s, hsE, hsS, hsP⟩ := tame_ev hk3 l0
  have hsp := tame_pos hk3 hsS hsP
  obtain ⟨a, haE, haS, haP⟩ := tame_ev hk3 l2
  have hap := tame_pos hk3 haS haP
  obtain ⟨b, hbE, hbS, hbP⟩ := tame_ev hk3 l3
  have hbp := tame_pos hk3 hbS hbP
  obtain ⟨c, hcE⟩ : ∃ c, clF l1 10 = c := ⟨_, rfl⟩
  have hcf : Fls c := by rw [← hcE]; exact clF_fls _ _
  have hcl : c.length ≤ 10 := by rw [← hcE]; exact clF_len _ _
  have hh := hall_of hk1 hk3 hsp hcf (by omega)
  have hal : 0 < a.length := by rw [hap.len]; omega
  obtain ⟨f, hfe⟩ : ∃ f, a.getD 0 0 = f := ⟨_, rfl⟩
  have hfa : f ∈ a := by rw [← hfe, List.getD_eq_getElem?_getD, List.getElem?_eq_getElem hal]; exact List.getElem_mem _
  have hff : Fl f := hap.rng f hfa
  have hcf2 : Fls (c ++ [f]) := fun y hy => by
    rcases List.mem_append.1 hy with hy | hy
    · exact hcf y hy
    · rw [List.mem_singleton.1 hy]; exact hff
  have hh2 := hall_of hk1 hk3 hsp hcf2 (by simp; omega)
  have hlip := works_lip hk1 hcf (first_lip k hsp)
  have hbd : ∀ x, Pos k x → 0 ≤ works k (dist s) c x ∧ works k (dist s) c x ≤ 100000 := fun x hx => by
    have h := works_bd0 hk1 hk3 hsp hcf (by omega) c.length x hx
    rwa [List.take_length] at h
  have e1 : works k (dist s) (c ++ [f]) a = works k (dist s) c a := by
    rw [works_snoc]; exact nxt_at hk1 hlip hff.1 hff.2 hap hfa
  have e2 : works k (dist s) c b ≤ works k (dist s) (c ++ [f]) b := by
    rw [works_snoc]; exact nxt_ge hk1 hlip hff.1 hff.2 hbp
  have e3 : works k (dist s) c a ≤ works k (dist s) c b + dist a b := by
    have h := hlip a b hap hbp
    rwa [dist_symm b a] at h
  have e4 : works k (dist s) c b ≤ works k (dist s) c a + dist a b := hlip b a hbp hap
  have hbk := bkF_back hk1 c (dist s) hcf (first_lip k hsp) (fun x _ => dist_nonneg s x)
  have hbb := (back_best hk1 hsp hcf hbk).2
  have e5 := hbb a hap
  have e6 := hbb b hbp
  have hdb := dist_bd hk3 hap hbp
  have hba := hbd a hap
  have hbb2 := hbd b hbp
  have hF0 : lifts_Best.f s c = some (bkF k (dist s) c, cost s (bkF k (dist s) c), 0) := by unfold lifts_Best.f; rw [hh, hsp.len]; rfl
  have hW1 := work_f hk1 hk3 hsp hap hh
  have hW2 := work_f hk1 hk3 hsp hbp hh
  have hW3 := work_f hk1 hk3 hsp hap hh2
  have hW4 := work_f hk1 hk3 hsp hbp hh2
  rw [e1] at hW3
  have HLI := Lib.hid hk
  have HTA := Lib.hid hsE
  have HTB := Lib.hid haE
  have HTC := Lib.hid hbE
  have HCL := Lib.hid hcE
  have HAP := Lib.hid hap
  have HBP := Lib.hid hbp
  obtain ⟨x, hx⟩ : ∃ x, works k (dist s) c a = x := ⟨_, rfl⟩
  obtain ⟨y, hy⟩ : ∃ x, works k (dist s) c b = x := ⟨_, rfl⟩
  obtain ⟨w2v, hw2v⟩ : ∃ x, works k (dist s) (c ++ [f]) b = x := ⟨_, rfl⟩
  obtain ⟨Bl, hBl⟩ : ∃ X, bkF k (dist s) c = X := ⟨_, rfl⟩
  rw [hBl] at hF0 e5 e6
  obtain ⟨qb, hqb⟩ : ∃ q, cost s Bl = q := ⟨_, rfl⟩
  obtain ⟨d, hd⟩ : ∃ q, dist a b = q := ⟨_, rfl⟩
  rw [hx] at e3 e4 e5 hW1 hW3 hba
  rw [hy] at e2 e3 e4 e6 hW2 hbb2
  rw [hw2v] at e2 hW4
  rw [hqb] at hF0 e5 e6
  rw [hd] at e3 e4 hdb
  have HD := Lib.hid hd
  have HF0 := Lib.hid hF0
  have HW1 := Lib.hid hW1
  have HW2 := Lib.hid hW2
  have hW3' := hW3
  have hW4' := hW4
  have HFA := Lib.hid hfe
  obtain ⟨cf, hcfE⟩ : ∃ g, c ++ [f] = g := ⟨_, rfl⟩
  rw [hcfE] at hW3' hW4'
  have HCF := Lib.hid hcfE
  have HW3 := Lib.hid hW3'
  have HW4 := Lib.hid hW4'
  have hcl2 : c.length ≤ 10 := hcl
  have HTK : Hid (turndownlaw07_list.f c = some c) := Lib.hid (by rw [list_f, List.take_of_length_le (by omega)])
  have HLR : Hid (∀ W I T, Env w W I T → ∀ {Ac : Option Addr} {cc : Nat}, (Ac, cc, c) ∈ I → Calls Try.prog 14 #[.slice Ac c.length cc] W fun e w' => ∃ v, e = .returned v ∧ Kd.R (Kd.int .i64) 3 w' W.heap.size (fun _ => True) v c ∧ Below W.heap.size W w') := Lib.hid (fun W I T h Ac cc hm =>
    turndownlaw07_list.calls Ac cc c c W (h.is _ hm).1 (h.is _ hm).2 HTK.out)
  have hx1 : (0 : Int) < (a.length : Int) := by omega
  obtain ⟨B, hB⟩ : ∃ B, w.heap.size = B := ⟨_, rfl⟩
  have hal2 : Below w.heap.size w (w.alloc (Obj.cells #[Value.slice A2 l2.length c2, Value.slice A3 l3.length c3] 45)) := (Below.refl _ _).alloc (Nat.le_refl _) _
  have HE0 : Hid (Env w (w.alloc (Obj.cells #[Value.slice A2 l2.length c2, Value.slice A3 l3.length c3] 45)) [(A0, c0, l0), (A1, c1, l1), (A2, c2, l2), (A3, c3, l3)] []) := Lib.hid (HE00.out.below hal2)
  have hcA : (w.alloc (Obj.cells #[Value.slice A2 l2.length c2, Value.slice A3 l3.length c3] 45)).cell? ⟨w.heap.size, 0, none⟩ = some (.slice A2 l2.length c2) := by simp [go_sem]
  have hcB : (w.alloc (Obj.cells #[Value.slice A2 l2.length c2, Value.slice A3 l3.length c3] 45)).cell? ⟨w.heap.size, 1, none⟩ = some (.slice A3 l3.length c3) := by simp [go_sem]
  have HBX : Hid (∀ W, Below (w.alloc (Obj.cells #[Value.slice A2 l2.length c2, Value.slice A3 l3.length c3] 45)).heap.size (w.alloc (Obj.cells #[Value.slice A2 l2.length c2, Value.slice A3 l3.length c3] 45)) W → W.cell? ⟨B, 0, none⟩ = some (.slice A2 l2.length c2) ∧ W.cell? ⟨B, 1, none⟩ = some (.slice A3 l3.length c3)) := Lib.hid (fun W hW => by
    rw [← hB]
    exact ⟨(hW.cell (World.block_lt_of_cell? _ _ hcA)).trans hcA, (hW.cell (World.block_lt_of_cell? _ _ hcB)).trans hcB⟩)
  have HBE := Lib.hid hB
  clear hW3' hW4' hcfE HE00 hcA hcB hal2 h0 h1 h2 h3 hc0 hc1 hc2 hc3 hk hkb hsE hsS hsP hsp haE haS haP hap hbE hbS hbP hbp hcE hcf hh hal hfe hfa hff hcf2 hh2 hlip hbd e1 hbk hbb hF0 hW1 hW2 hW3 hW4 hx hy hw2v hBl hqb hd hB
  go_enter Try.func8, Try.ntmps8
  go_upto_region 1 with fail
  rw [HBE.out]
  generalize (w.alloc (Obj.cells #[Value.slice A2 l2.length c2, Value.slice A3 l3.length c3] 45)) = w00 at *
  go_upto_region 2 with (go_at_call 30; (with_reducible refine (lifted_E HE0.out.rebase (A := A0) (c := c0) (l := l0) (by simp) HLI.out).mono ?_); rintro e w1 ⟨rfl, hE1⟩)
  have HE1 := Lib.hid hE1
  clear hE1
  have HM10 : Hid (∀ W I T, Env w00 W I T → (A1, c1, l1) ∈ I → Calls Try.prog 32 #[.slice A1 l1.length c1, .int .i64 10] W fun e w' => ∃ A' c', e = .returned (.slice A' c.length c') ∧ Env w00 w' ((A', c', c) :: I) T) := Lib.hid (fun W I T h hm => made_E h hm (m := 10) (by omega) HCL.out)
  go_upto_region 3 with (first | (go_at_call 31; (with_reducible refine (tame_E HE1.out (A := A0) (c := c0) (l := l0) (by simp) HTA.out).mono ?_); rintro e w2 ⟨As, cs, rfl, hE2⟩) | (go_at_call 32; (with_reducible refine (HM10.out _ _ _ hE2 (by simp)).mono ?_); rintro e w3 ⟨Ac, cc, rfl, hE3⟩))
  have HE3 := Lib.hid hE3
  have HX : Hid (∀ W, Below w3.heap.size w3 W → W.cell? ⟨B, 0, none⟩ = some (.slice A2 l2.length c2) ∧ W.cell? ⟨B, 1, none⟩ = some (.slice A3 l3.length c3)) := Lib.hid (fun W hW => HBX.out W (HE3.out.bel.trans (hW.mono HE3.out.bel.size)))
  clear hE2 hE3
  apply R.wp_region_tree2 10 (.fl 0 (.fl 1 (.fl 2 (.fl 4 (.fl 5 (.fl 6 (.go 3 (.go 7 (.go 8 (.go 9 .nil)))))))))) (fun w' => Below w3.heap.size w3 w')
  case hm => kernel_rfl
  case hB => kernel_rfl
  case hQ => exact fun _ _ d _ _ h => by cases d <;> exact h
  case hS => exact (Below.refl _ _).drew
  case h =>
  refine R.wpTree2_fl (.pointer (some ⟨B, 0, none⟩)) rfl rfl (fun w' hS => by obtain ⟨z1, z2⟩ := HX.out w' hS; go_simp) ?_
  try go_frame
  refine R.wpTree2_fl (.slice A2 l2.length c2) rfl rfl (fun w' hS => by obtain ⟨z1, z2⟩ := HX.out w' hS; go_simp) ?_
  try go_frame
  refine R.wpTree2_fl (.int .i64 (k : Int)) rfl rfl (fun w' hS => by obtain ⟨z1, z2⟩ := HX.out w' hS; go_simp) ?_
  try go_frame
  refine R.wpTree2_fl (.pointer (some ⟨B, 1, none⟩)) rfl rfl (fun w' hS => by obtain ⟨z1, z2⟩ := HX.out w' hS; go_simp) ?_
  try go_frame
  refine R.wpTree2_fl (.slice A3 l3.length c3) rfl rfl (fun w' hS => by obtain ⟨z1, z2⟩ := HX.out w' hS; go_simp) ?_
  try go_frame
  refine R.wpTree2_fl (.int .i64 (k : Int)) rfl rfl (fun w' hS => by obtain ⟨z1, z2⟩ := HX.out w' hS; go_simp) ?_
  try go_frame
  refine R.wpTree2_go rfl rfl true rfl (fun K hK => ?_)
  go_simp
  refine (tame_E (HE3.out.rebase.below (Below.refl _ _).drew) (A := A2) (c := c2) (l := l2) (by simp) HTB.out).mono ?_
  rintro e w4 ⟨Aa, ca, rfl, hE4⟩
  have HE4 := Lib.hid hE4
  refine hK _ _ (fun _ => HE4.out.bel) ?_
  clear hK K hE4
  try go_frame
  refine R.wpTree2_go rfl rfl true rfl (fun K hK => ?_)
  go_simp
  refine (tame_E HE4.out (A := A3) (c := c3) (l := l3) (by simp) HTC.out).mono ?_
  rintro e w5 ⟨Ab, cb, rfl, hE5⟩
  have HE5 := Lib.hid hE5
  refine hK _ _ (fun _ => HE5.out.bel) ?_
  clear hK K hE5
  try go_frame
  refine R.wpTree2_go rfl rfl true rfl (fun K hK => ?_)
  go_simp
  refine hK _ _ (fun _ => HE5.out.bel) ?_
  clear hK K
  try go_frame
  refine R.wpTree2_go rfl rfl true rfl (fun K hK => ?_)
  go_simp
  refine hK _ _ (fun _ => HE5.out.bel) ?_
  clear hK K
  refine R.wpTree2_nil ?_
  try go_frame
  have HE6 := Lib.hid ((HE0.out.lead HE3.out).lead HE5.out)
  clear HE5 HE4 HE3 HE1 HX
  go_upto_region 5 with (go_at_call 24; (with_reducible refine (work_E HE6.out (A0 := As) (c0 := cs) (s := s) (A1 := Ac) (c1 := cc) (c := c) (A2 := Aa) (c2 := ca) (t := a) (by simp) (by simp) (by simp) HW1.out).mono ?_); rintro e w6 ⟨rfl, hE7⟩)
  have HE7 := Lib.hid hE7
  clear hE7
  go_upto_region 6 with (go_at_call 24; (with_reducible refine (work_E HE7.out (A0 := As) (c0 := cs) (s := s) (A1 := Ac) (c1 := cc) (c := c) (A2 := Ab) (c2 := cb) (t := b) (by simp) (by simp) (by simp) HW2.out).mono ?_); rintro e w7 ⟨rfl, hE8⟩)
  have HE8 := Lib.hid hE8
  clear hE8
  go_upto_region 7 with (go_at_call 22; (with_reducible refine (best_E HE8.out (A0 := As) (c0 := cs) (s := s) (A1 := Ac) (c1 := cc) (c := c) (by simp) (by simp) HF0.out).mono ?_); rintro e w8 ⟨Abe, cbe, rfl, hE9⟩)
  have HE9 := Lib.hid hE9
  clear hE9
  obtain ⟨ad, hAd, hfc⟩ : ∃ ad, Aa = some ad ∧ w8.cell? ad = some (.int .i64 f) := by
    have hm := (HE9.out.is (Aa, ca, a) (by simp)).1
    obtain ⟨ad, v, e, hv1, h⟩ := at_int hm (Below.refl _ _) 0 (show 0 < a.length by omega)
    have hz : a.getD 0 0 = f := HFA.out
    rw [List.getD_eq_getElem?_getD, hv1.out] at hz
    have hz2 : v = f := hz
    subst hz2
    exact ⟨ad, e, h⟩
  subst hAd
  have h00 : (0 : Int) ≤ 0 := by omega
  go_upto_region 8 with fail
  clear hfc
  go_upto_region 9 with (first | (go_at_call 14; (with_reducible refine (HLR.out _ _ _ HE9.out (Ac := Ac) (cc := cc) (by simp)).mono ?_); rintro e wl1 ⟨vl1, rfl, hRl1, hbl1⟩) | (at_builtin; refine Kd.R_append (Kd.int .i64) (w0 := w8) w8.heap.size rfl (.tmp 67) (.tmp 69) 22 3 (.int .i64 0) 8 rfl Try.underlying22 info3 rfl (by decide) (by omega) vl1 c f [.int .i64 f] (fun _ => True) (fun _ => False) rfl rfl ?aP1 (fun _ hk => hk.elim) ?aF1 ?aO1 ?aB1 ?aS1 ?aL1 ?_))
  case aP1 => exact rfl
  case aF1 => exact fun _ _ => trivial
  case aO1 => exact hRl1
  case aB1 => exact hbl1
  case aS1 => exact hbl1.size
  case aL1 => omega
  intro va1 wa1 hRa1 hBa1 _ _
  rw [HCF.out] at hRa1
  obtain ⟨Al1, cl1, ev1, hcl1, hCl1⟩ := Kd.R_reads hRa1
  subst ev1
  have HA1 := Lib.hid ((HE9.out.below hBa1).addI hCl1 hcl1)
  clear hRl1 hbl1 hRa1 hBa1 hcl1 hCl1
  go_upto_region 9 with (go_at_call 24; (with_reducible refine (work_E HA1.out (A0 := As) (c0 := cs) (s := s) (A1 := Al1) (c1 := cl1) (c := cf) (A2 := (some ad)) (c2 := ca) (t := a) (by simp) (by simp) (by simp) HW3.out).mono ?_); rintro e w9 ⟨rfl, hEw1⟩)
  have HEw1 := Lib.hid hEw1
  clear hEw1
  go_upto_region 10 with (first | (go_at_call 14; (with_reducible refine (HLR.out _ _ _ HEw1.out (Ac := Ac) (cc := cc) (by simp)).mono ?_); rintro e wl2 ⟨vl2, rfl, hRl2, hbl2⟩) | (at_builtin; refine Kd.R_append (Kd.int .i64) (w0 := w9) w9.heap.size rfl (.tmp 78) (.tmp 80) 22 3 (.int .i64 0) 8 rfl Try.underlying22 info3 rfl (by decide) (by omega) vl2 c f [.int .i64 f] (fun _ => True) (fun _ => False) rfl rfl ?aP2 (fun _ hk => hk.elim) ?aF2 ?aO2 ?aB2 ?aS2 ?aL2 ?_))
  case aP2 => exact rfl
  case aF2 => exact fun _ _ => trivial
  case aO2 => exact hRl2
  case aB2 => exact hbl2
  case aS2 => exact hbl2.size
  case aL2 => omega
  intro va2 wa2 hRa2 hBa2 _ _
  rw [HCF.out] at hRa2
  obtain ⟨Al2, cl2, ev2, hcl2, hCl2⟩ := Kd.R_reads hRa2
  subst ev2
  have HA2 := Lib.hid ((HEw1.out.below hBa2).addI hCl2 hcl2)
  clear hRl2 hbl2 hRa2 hBa2 hcl2 hCl2
  go_upto_region 10 with (go_at_call 24; (with_reducible refine (work_E HA2.out (A0 := As) (c0 := cs) (s := s) (A1 := Al2) (c1 := cl2) (c := cf) (A2 := Ab) (c2 := cb) (t := b) (by simp) (by simp) (by simp) HW4.out).mono ?_); rintro e w10 ⟨rfl, hEw2⟩)
  have HEw2 := Lib.hid hEw2
  clear hEw2
  go_upto_region 13 with (go_at_call 35; (with_reducible refine (dist_E HEw2.out (A0 := some ad) (c0 := ca) (a := a) (A1 := Ab) (c1 := cb) (b := b) (by simp) (by simp) hk3 HAP.out HBP.out HD.out).mono ?_); rintro e w11 ⟨rfl, hE11⟩)
  have HE11 := Lib.hid hE11
  clear hE11
  go_wp2_with (go_at_call 19; (with_reducible refine (awake_E HE11.out).mono ?_); rintro e w12 ⟨rfl, hE12⟩)
  go_ret
  exact ⟨rfl, hE12.bel⟩
end Go.Proofs.Ytakbijpcfnipoaa.L
