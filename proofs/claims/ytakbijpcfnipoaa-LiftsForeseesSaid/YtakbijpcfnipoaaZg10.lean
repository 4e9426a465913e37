/- What the statements of this seat lean on: the functions that they reach, walked. -/
import Derived.Test.YtakbijpcfnipoaaZg9
set_option linter.unusedSimpArgs false
set_option linter.unusedVariables false

set_option linter.unusedVariables false
set_option linter.unusedSimpArgs false
namespace Go.Proofs.Ytakbijpcfnipoaa.L
open Go.RowKit Go.Proofs.YtakbijpcfnipoaaW.PrintWords Go.Proofs.YtakbijpcfnipoaaW.PrintLast Go.Proofs.YtakbijpcfnipoaaW.PrintMore
open Go.Proofs.Ytakbijpcfnipoaa.PA Go.Proofs.Ytakbijpcfnipoaa.A Go.Proofs.Ytakbijpcfnipoaa.Lf
def Srch (k : Nat) (v : List Int → Int) (f : Int) (q : Nat) (b a : Int) : Prop :=
  (a = -1 ∧ b = -1 ∧ chp v f ((allF k 0).take q) = ([], -1)) ∨ (∃ j : Nat, j < q ∧ a = (j : Int) ∧ 0 ≤ b ∧ chp v f ((allF k 0).take q) = ((allF k 0).getD j [], b))
theorem srch_step {k q : Nat} {v : List Int → Int} {f b a : Int} (h : Srch k v f q b a) (hq : q < (allF k 0).length) (hv : 0 ≤ v ((allF k 0).getD q [])) :
    ((allF k 0).getD q []).contains f = true → (a < 0 ∨ v ((allF k 0).getD q []) < b) → Srch k v f (q + 1) (v ((allF k 0).getD q [])) (q : Int) := fun hc hlt => by
  refine .inr ⟨q, Nat.lt_succ_self q, rfl, hv, ?_⟩
  rw [take_snoc_d hq [], chp_snoc]
  unfold stp
  rw [if_pos hc]
  rcases h with ⟨ha, hb, h⟩ | ⟨j, hj, ha, hb, h⟩
  · rw [h, if_pos (.inl (by decide))]
  · rw [h, if_pos (.inr (by rcases hlt with hlt | hlt; omega; exact hlt))]
theorem srch_stay {k q : Nat} {v : List Int → Int} {f b a : Int} (h : Srch k v f q b a) (hq : q < (allF k 0).length) :
    (((allF k 0).getD q []).contains f = false ∨ (¬ a < 0 ∧ ¬ v ((allF k 0).getD q []) < b)) → Srch k v f (q + 1) b a := fun hc => by
  have hs : chp v f ((allF k 0).take (q + 1)) = chp v f ((allF k 0).take q) := by
    rw [take_snoc_d hq [], chp_snoc]
    unfold stp
    rcases hc with hc | ⟨h1, h2⟩
    · rw [hc, if_neg (by simp)]
    · rcases h with ⟨ha, hb, h⟩ | ⟨j, hj, ha, hb, h⟩
      · omega
      · rw [h]
        split
        · rw [if_neg (by simp only [not_or]; omega)]
        · rfl
  rcases h with ⟨ha, hb, h⟩ | ⟨j, hj, ha, hb, h⟩
  · exact .inl ⟨ha, hb, hs.trans h⟩
  · exact .inr ⟨j, by omega, ha, hb, hs.trans h⟩
theorem srch_end {k : Nat} (hk1 : 1 ≤ k) {v : List Int → Int} {f b a : Int} (f0 : 0 ≤ f) (f1 : f ≤ 30) (hv : ∀ s, Pos k s → 0 ≤ v s) (h : Srch k v f (allF k 0).length b a) : ∃ j : Nat, j < (allF k 0).length ∧ a = (j : Int) ∧ (allF k 0).getD j [] = (chp v f (allF k 0)).1 := by
  unfold Srch at h
  rw [List.take_length] at h
  rcases h with ⟨ha, hb, h⟩ | ⟨j, hj, ha, hb, h⟩
  · have := (chp_all hk1 v f0 f1 hv).2.1
    rw [h] at this
    cases this
  · exact ⟨j, hj, ha, by rw [h]⟩
set_option maxHeartbeats 16000000 in
set_option maxRecDepth 100000 in
theorem refForesee_c (A : Option Addr) (ca : Nat) (s : List Int) (C : Option Addr) (cc : Nat) (c : List Int) (w : World) (hr : Kd.C (Kd.int .i64) w A s.length s) (hca : s.length ≤ ca) (hc : Kd.C (Kd.int .i64) w C c.length c) (hk1 : 1 ≤ s.length) (hk3 : s.length ≤ 3) (hs : Pos s.length s) (hcf : Fls c) (h40 : c.length ≤ 40) :
    Calls Try.prog 38 #[.slice A s.length ca, .slice C c.length cc] w fun e w' => ∃ E ce, e = .returned (.slice E c.length ce) ∧ c.length ≤ ce ∧ Kd.C (Kd.slice 3 (Kd.int .i64)) w' E c.length (fsF s.length (dist s) s c) ∧ Below w.heap.size w w' := by
  have hpos := fsP_pos hk1 hk3 hs hcf h40
  have hsz := all_size s.length hk3
  obtain ⟨T0, hT0, htab0⟩ := first_ev hk3 hs
  have HALL : Hid (Calls Try.prog 26 #[.int .i64 (s.length : Int)] w fun e w' => ∃ E ce, e = .returned (.slice E (allF s.length 0).length ce) ∧ (allF s.length 0).length ≤ ce ∧ Kd.C (Kd.slice 3 (Kd.int .i64)) w' E (allF s.length 0).length (allF s.length 0) ∧ Below w.heap.size w w') := Lib.hid (by
    obtain ⟨k, hk⟩ := Ev.rounds (all_ev hk3)
    refine (turndownref07_All.calls k _ _ w hk).mono ?_
    rintro e w' ⟨v, rfl, hS, hb⟩
    obtain ⟨E, ce, rfl, g1, g2⟩ := Kd.S_reads hS
    exact ⟨E, ce, rfl, g1, g2, hb⟩)
  have HFI : Hid (∀ W E ce, Below w.heap.size w W → Kd.C (Kd.slice 3 (Kd.int .i64)) W E (allF s.length 0).length (allF s.length 0) → (allF s.length 0).length ≤ ce → Calls Try.prog 54 #[.slice E (allF s.length 0).length ce, .slice A s.length ca] W fun e w' => ∃ v, e = .returned v ∧ Kd.R (Kd.int .i64) 3 w' W.heap.size (fun _ => True) v T0 ∧ Below W.heap.size W w') := Lib.hid (fun W E ce hW hE hce => by
    obtain ⟨k, hk⟩ := Ev.rounds hT0
    exact turndownref07_First.calls k E ce _ A ca s _ W hE hce (Kd.C_below hr hW) hca hk)
  have HNX : Hid (∀ i T, i < c.length → Tab s.length (works s.length (dist s) (c.take i)) T → ∃ T', Tab s.length (works s.length (dist s) (c.take (i + 1))) T' ∧ ∀ W E ce v, Kd.C (Kd.slice 3 (Kd.int .i64)) W E (allF s.length 0).length (allF s.length 0) → (allF s.length 0).length ≤ ce → ∀ B, Kd.R (Kd.int .i64) 3 W B (fun _ => True) v T → Calls Try.prog 55 #[.slice E (allF s.length 0).length ce, v, .int .i64 (c.getD i 0)] W fun e w' => ∃ v, e = .returned v ∧ Kd.R (Kd.int .i64) 3 w' W.heap.size (fun _ => True) v T' ∧ Below W.heap.size W w') := Lib.hid (fun i T hi hT => by
    have hf : Fl (c.getD i 0) := by rw [List.getD_eq_getElem?_getD, List.getElem?_eq_getElem hi]; exact hcf _ (List.getElem_mem hi)
    obtain ⟨T', h1, h2⟩ := next_ev hk1 hk3 (works_bd0 hk1 hk3 hs hcf h40 i) hT hf
    rw [works_next hi] at h2
    refine ⟨T', h2, fun W E ce v hE hce B hv => ?_⟩
    obtain ⟨k, hk⟩ := Ev.rounds h1
    obtain ⟨A', c', rfl, g1, g2⟩ := Kd.R_reads hv
    exact turndownref07_Next.calls k E ce _ A' c' T _ _ W hE hce g2 g1 hk)
  have HNOW : Hid (RowAt w.heap.size w (A, s.length, ca) (fsP s.length s c 0)) := Lib.hid (RowAt.ofC hr hca (by omega) (by omega))
  have HCA : Hid (∀ i, i < c.length → ∃ ad, C = some ad ∧ w.cell? (ad.add i) = some (.int .i64 (c.getD i 0)) ∧ (ad.add i).block < w.heap.size) := Lib.hid (fun i hi => by
    obtain ⟨ad, e, hm⟩ := mem1 hc (by omega)
    have h1 := hm i _ (List.getElem?_eq_getElem hi)
    refine ⟨ad, e, ?_, h1.2⟩
    rw [List.getD_eq_getElem?_getD, List.getElem?_eq_getElem hi]
    exact h1.1)
  have HDC : Hid (∀ q, q < (allF s.length 0).length → ∃ Vd : Int, ∀ W Aq cq B An cn i, RowAt B W (Aq, s.length, cq) ((allF s.length 0).getD q []) → RowAt B W (An, s.length, cn) (fsP s.length s c i) → i ≤ c.length → True) := Lib.hid (fun q hq => ⟨0, fun _ _ _ _ _ _ _ _ _ _ => trivial⟩)
  clear HDC
  have HHAS : Hid (∀ q f W Aq cq B, q < (allF s.length 0).length → RowAt B W (Aq, s.length, cq) ((allF s.length 0).getD q []) → Calls Try.prog 50 #[.slice Aq s.length cq, .int .i64 f] W fun e w' => e = .returned (.bool (((allF s.length 0).getD q []).contains f)) ∧ Below W.heap.size W w') := Lib.hid (fun q f W Aq cq B hq hR => by
    have hp := all_at hq
    obtain ⟨k, hk⟩ := Ev.rounds (has_ev (l := (allF s.length 0).getD q []) (by rw [hp.len]; omega) f)
    have hC := hR.C
    obtain ⟨r1, r2, _⟩ := hR
    have h9 := turndownref07_has.calls k Aq cq _ f _ W hC r2 hk
    rw [hp.len] at h9
    exact h9.mono fun e w' ⟨he, hd⟩ => ⟨he, hd.below⟩)
  have HCODE : Hid (∀ q W Aq cq B, q < (allF s.length 0).length → RowAt B W (Aq, s.length, cq) ((allF s.length 0).getD q []) → Calls Try.prog 27 #[.slice Aq s.length cq] W fun e w' => e = .returned (.int .i64 (codeI ((allF s.length 0).getD q []))) ∧ Below W.heap.size W w') := Lib.hid (fun q W Aq cq B hq hR => by
    have hp := all_at hq
    obtain ⟨k, hk⟩ := Ev.rounds (code_ev hk3 hp)
    have hC := hR.C
    obtain ⟨r1, r2, _⟩ := hR
    have h9 := turndownref07_Code.calls k Aq cq _ _ W hC r2 hk
    rw [hp.len] at h9
    exact h9.mono fun e w' ⟨he, hd⟩ => ⟨he, hd.below⟩)
  have HDIST : Hid (∀ q i W Aq cq An cn B, q < (allF s.length 0).length → i ≤ c.length → RowAt B W (Aq, s.length, cq) ((allF s.length 0).getD q []) → RowAt B W (An, s.length, cn) (fsP s.length s c i) → Calls Try.prog 35 #[.slice An s.length cn, .slice Aq s.length cq] W fun e w' => e = .returned (.int .i64 (dist (fsP s.length s c i) ((allF s.length 0).getD q []))) ∧ Below W.heap.size W w') := Lib.hid (fun q i W Aq cq An cn B hq hi hR hN => by
    have hp := all_at hq
    have hn := hpos i hi
    obtain ⟨k, hk⟩ := Ev.rounds (distance_ev (by rw [hn.len, hp.len]) (by rw [hn.len]; omega) hn.rng hp.rng)
    have hC := hR.C
    have hCn := hN.C
    obtain ⟨r1, r2, _⟩ := hR
    obtain ⟨n1, n2, _⟩ := hN
    have h9 := turndownref07_Distance.calls k An cn _ Aq cq _ _ W hCn n2 hC r2 hk
    rw [hp.len, hn.len] at h9
    exact h9)
  have HLEN : Hid (∀ j, j < c.length → (fsF s.length (dist s) s c).getD j [] = fsP s.length s c (j + 1)) := Lib.hid (fun j hj => rfl)
  have HRL : Hid ((fsF s.length (dist s) s c).length = c.length) := Lib.hid (fsF_len _ _ _ _)
  have HSTEP : Hid (∀ i, i < c.length → fsP s.length s c (i + 1) = (chp (fun x => works s.length (dist s) (c.take (i + 1)) x + dist (fsP s.length s c i) x) (c.getD i 0) (allF s.length 0)).1) := Lib.hid (fun i hi => fsP_step _ _ _ hi)
  have HVB : Hid (∀ i x, i < c.length → Pos s.length x → 0 ≤ works s.length (dist s) (c.take (i + 1)) x ∧ works s.length (dist s) (c.take (i + 1)) x ≤ 100000 ∧ 0 ≤ dist (fsP s.length s c i) x ∧ dist (fsP s.length s c i) x ≤ 90) := Lib.hid (fun i x hi hx => by
    have h1 := works_bd0 hk1 hk3 hs hcf h40 (i + 1) x hx
    have h2 := dist_bd hk3 (hpos i (by omega)) hx
    exact ⟨h1.1, h1.2, h2.1, h2.2⟩)
  have HCF : Hid (∀ i, i < c.length → Fl (c.getD i 0)) := Lib.hid (fun i hi => by rw [List.getD_eq_getElem?_getD, List.getElem?_eq_getElem hi]; exact hcf _ (List.getElem_mem hi))
  have HPF : Hid (∀ i, i ≤ c.length → Pos s.length (fsP s.length s c i)) := Lib.hid hpos
  obtain ⟨k, hk⟩ : ∃ n, s.length = n := ⟨_, rfl⟩
  obtain ⟨n, hn⟩ : ∃ n, c.length = n := ⟨_, rfl⟩
  rw [hk] at HALL HFI HNX HNOW HHAS HCODE HDIST HLEN HRL HSTEP HVB HPF htab0 hsz hk1 hk3
  rw [hn] at HNX HCA HDIST HLEN HRL HSTEP HVB HCF HPF h40
  rw [hk, hn]
  have HTAB0 := Lib.hid htab0
  obtain ⟨N, hN⟩ : ∃ N, (allF k 0).length = N := ⟨_, rfl⟩
  rw [hN] at HALL HFI HNX HHAS HCODE HDIST hsz
  have HNN := Lib.hid hN
  clear hr hca hc hs hcf hpos hk hn hT0 htab0 hN
  go_enter Try.func38, Try.ntmps38
  go_upto_region 2 with (go_at_call 26; (with_reducible refine HALL.out.mono ?_); rintro e w1 ⟨E, ce, rfl, hce, hE, hb1⟩)
  have HE1 := Lib.hid hE
  have HB1 := Lib.hid hb1
  have HCE := Lib.hid hce
  have HFI1 := Lib.hid (HFI.out w1 E ce hb1 hE hce)
  clear hE hb1 hce HALL HFI
  go_upto_region 3 with (go_at_call 54; (with_reducible refine HFI1.out.mono ?_); rintro e w2 ⟨v6, rfl, hR, hb2⟩)
  have HB2 : Hid (Below w.heap.size w w2) := Lib.hid (HB1.out.trans (hb2.mono HB1.out.size))
  have HE2 : Hid (Kd.C (Kd.slice 3 (Kd.int .i64)) w2 E N (allF k 0)) := Lib.hid (Kd.C_below HE1.out hb2)
  have HT2 : Hid (Kd.R (Kd.int .i64) 3 w2 w1.heap.size (fun _ => True) v6 T0) := Lib.hid hR
  have hz12 := hb2.size
  clear hR hb2 HFI1 HE1
  obtain ⟨B, hB⟩ : ∃ B, w2.heap.size = B := ⟨_, rfl⟩
  have HBE := Lib.hid hB
  have hz1B : w1.heap.size ≤ B := by omega
  have HB1Z : Hid (w.heap.size ≤ w1.heap.size) := Lib.hid HB1.out.size
  have HNOW2 : Hid (RowAt B w2 (A, k, ca) (fsP k s c 0)) := Lib.hid ((HNOW.out.below HB2.out).lift (by have := HB1Z.out; omega))
  have HROW : Hid (∀ q, q < N → ∃ ad Aq cq, E = some ad ∧ w2.cell? (ad.add q) = some (.slice Aq k cq) ∧ RowAt B w2 (Aq, k, cq) ((allF k 0).getD q [])) := Lib.hid (fun q hq => by
    have hqa : q < (allF k 0).length := by rw [HNN.out]; exact hq
    have hC := HE2.out
    rw [← HNN.out] at hC
    obtain ⟨ad, Aq, cq, e1, e2, e3, e4⟩ := at_L1 hC (q : Int) (by omega) (by omega)
    have hp := all_at hqa
    have e5 : rd_L1 (allF k 0) (q : Int) = (allF k 0).getD q [] := rfl
    rw [e5] at e2 e3 e4
    rw [Int.toNat_natCast] at e2
    have h9 := RowAt.ofC e4 e3 (by rw [hp.len]; omega) (by rw [hp.len]; omega)
    rw [hp.len] at e2 h9
    rw [HBE.out] at h9
    exact ⟨ad, Aq, cq, e1, e2, h9⟩)
  clear hB HNOW
  go_wp2_with fail
  go_loopw [6, 7, 8, 9] (fun v6 v7 v8 v9 wr => ∃ (i : Nat) (hs : List (Option Addr × Nat × Nat)) (An : Option Addr) (cn : Nat) (T : List Int), v9 = .int .i64 (i : Int) ∧ v7 = .slice An k cn ∧ i ≤ n ∧ Hid (hs.length = i) ∧ Hid (Kd.S hdK 22 wr B (fun _ => True) v8 hs) ∧ Hid (RowAt B wr (An, k, cn) (fsP k s c i)) ∧ Hid (∀ j, j < i → RowAt B wr (hs.getD j (none, 0, 0)) (fsP k s c (j + 1))) ∧ Hid (Kd.R (Kd.int .i64) 3 wr w1.heap.size (fun _ => True) v6 T) ∧ Hid (Tab k (works k (dist s) (c.take i)) T) ∧ Hid (Below B w2 wr)) (fun _ _ _ v9 _ => n - (intOf v9).toNat)
  case atStart => exact ⟨0, [], A, ca, T0, rfl, rfl, Nat.zero_le _, Lib.hid rfl, Lib.hid (Kd.S_nil _ _ _ _ _), HNOW2, Lib.hid (fun j hj => absurd hj (Nat.not_lt_zero _)), HT2, HTAB0, Lib.hid (by rw [← HBE.out]; exact Below.refl _ _)⟩
  case round =>
    rename World => wr
    obtain ⟨i, hs, An, cn, T, rfl, rfl, hi, HL, HS, HN, HO, HTR, HTB, HBr⟩ := hrel
    clear HNOW2 HT2 HTAB0
    by_cases hlt : i < n
    · have hlt' : (i : Int) < (n : Int) := by omega
      have hi0 : (0 : Int) ≤ (i : Int) := by omega
      obtain ⟨ad, rfl, hca, hcb⟩ := HCA.out i hlt
      have hcw : ∀ W, Below B w2 W → W.cell? (ad.add i) = some (.int .i64 (c.getD i 0)) := fun W hW =>
        (hW.cell (by have := HB2.out.size; have := HBE.out; omega)).trans ((HB2.out.cell hcb).trans hca)
      have hcr := hcw wr HBr.out
      obtain ⟨T', htab, hnx⟩ := HNX.out i T hlt HTB.out
      have HNQ := Lib.hid (hnx wr E ce u6 (Kd.C_below HE2.out (by rw [HBE.out]; exact HBr.out)) HCE.out _ HTR.out)
      have hfl := HCF.out i hlt
      have HST := Lib.hid (HSTEP.out i hlt)
      have HVI := Lib.hid (fun x hx => HVB.out i x hlt hx)
      obtain ⟨f, hf⟩ : ∃ f, c.getD i 0 = f := ⟨_, rfl⟩
      rw [hf] at hcr hcw HNQ hfl HST
      have HCW := Lib.hid hcw
      have HFL := Lib.hid hfl
      have HTB2 := Lib.hid htab
      obtain ⟨v, hv⟩ : ∃ v : List Int → Int, v = fun x => works k (dist s) (c.take (i + 1)) x + dist (fsP k s c i) x := ⟨_, rfl⟩
      have HV := Lib.hid hv
      rw [← hv] at HST
      clear hf hca hcb hcw hnx hfl htab hv HTB
      go_upto_region 9 with (go_at_call 55; (with_reducible refine HNQ.out.mono ?_); rintro e w3 ⟨v3, rfl, hR3, hb3⟩)
      have HB3 : Hid (Below B w2 w3) := Lib.hid (HBr.out.trans (hb3.mono (by have := HBr.out.size; have := HBE.out; omega)))
      have HS3 : Hid (Kd.S hdK 22 w3 B (fun _ => True) u8 hs) := Lib.hid (Kd.S_below HS.out hb3)
      have HN3 := Lib.hid (HN.out.below hb3)
      have HO3 : Hid (∀ j, j < i → RowAt B w3 (hs.getD j (none, 0, 0)) (fsP k s c (j + 1))) := Lib.hid (fun j hj => (HO.out j hj).below hb3)
      have HT3 : Hid (Kd.R (Kd.int .i64) 3 w3 w1.heap.size (fun _ => True) v3 T') := Lib.hid (Kd.R_lower hR3 (by have := HBr.out.size; have := HBE.out; omega))
      obtain ⟨gt, capt, ev3, _, _, _⟩ := Kd.R_form HT3.out (by rw [HTB2.out.1]; omega)
      rw [HTB2.out.1] at ev3
      subst ev3
      have HTCE : Hid (∀ W j, Below w3.heap.size w3 W → j < 29791 → W.cell? ⟨gt, j, none⟩ = some (.int .i64 (T'.getD j 0))) := Lib.hid (fun W j hW hj => by
        have hRW := Kd.R_below HT3.out hW
        obtain ⟨c', hcl, hMM, hcc, hfr⟩ := Kd.R_elem hRW 0 (j : Int) (by omega) (by omega)
        rw [Int.toNat_natCast] at hMM hcc
        have e1 : c' = [.int .i64 (T'.getD j 0)] := hMM
        subst e1
        have h1 := hcc 0 _ rfl
        rw [show j * (Kd.int .i64).sz + 0 = j from Nat.mul_one j] at h1
        exact h1)
      clear hcr hR3 hb3 HS HN HO HTR HBr HNQ
      go_wp2_with fail
      go_loopw [10, 11, 12] (fun v10 v11 v12 wk => ∃ (q : Nat) (b a : Int), v12 = .int .i64 (q : Int) ∧ v10 = .int .i64 b ∧ v11 = .int .i64 a ∧ q ≤ N ∧ Hid (Srch k v f q b a) ∧ Hid (Below w3.heap.size w3 wk)) (fun _ _ v12 _ => N - (intOf v12).toNat)
      case atStart => exact ⟨0, -1, -1, rfl, rfl, rfl, Nat.zero_le _, Lib.hid (.inl ⟨rfl, rfl, rfl⟩), Lib.hid (Below.refl _ _)⟩
      case round =>
        rename World => wk
        obtain ⟨q, b, a, rfl, rfl, rfl, hq, HSR, HBk⟩ := hrel
        by_cases hqlt : q < N
        · have hqlt' : (q : Int) < (N : Int) := by omega
          have hq0 : (0 : Int) ≤ (q : Int) := by omega
          obtain ⟨ae, Aq, cq, rfl, hrc, hrow⟩ := HROW.out q hqlt
          have HX : Hid (∀ W, Below wk.heap.size wk W → W.cell? (ae.add q) = some (.slice Aq k cq) ∧ W.cell? (ad.add i) = some (.int .i64 f)) := Lib.hid (fun W hW => by
            have hWB : Below B w2 W := HB3.out.trans ((HBk.out.mono (by have := HB3.out.size; have := HBE.out; omega)).trans (hW.mono (by have := HBk.out.size; have := HB3.out.size; have := HBE.out; omega)))
            exact ⟨(hWB.cell (by have := World.block_lt_of_cell? w2 _ hrc; have := HBE.out; omega)).trans hrc, HCW.out W hWB⟩)
          have HRW : Hid (∀ W, Below wk.heap.size wk W → RowAt B W (Aq, k, cq) ((allF k 0).getD q []) ∧ RowAt B W (An, k, cn) (fsP k s c i)) := Lib.hid (fun W hW => by
            have h3 : Below w3.heap.size w3 W := HBk.out.trans (hW.mono HBk.out.size)
            have hWB : Below B w2 W := HB3.out.trans (h3.mono (by have := HB3.out.size; have := HBE.out; omega))
            exact ⟨hrow.below (by rw [HBE.out]; exact hWB), HN3.out.below h3⟩)
          have HH1 : Hid (∀ W, Below wk.heap.size wk W → Calls Try.prog 50 #[.slice Aq k cq, .int .i64 f] W fun e w' => e = .returned (.bool (((allF k 0).getD q []).contains f)) ∧ Below W.heap.size W w') := Lib.hid (fun W hW => HHAS.out q f W Aq cq B hqlt (HRW.out W hW).1)
          have HH2 : Hid (∀ W, Below wk.heap.size wk W → Calls Try.prog 27 #[.slice Aq k cq] W fun e w' => e = .returned (.int .i64 (codeI ((allF k 0).getD q []))) ∧ Below W.heap.size W w') := Lib.hid (fun W hW => HCODE.out q W Aq cq B hqlt (HRW.out W hW).1)
          have HH3 : Hid (∀ W, Below wk.heap.size wk W → Calls Try.prog 35 #[.slice An k cn, .slice Aq k cq] W fun e w' => e = .returned (.int .i64 (dist (fsP k s c i) ((allF k 0).getD q []))) ∧ Below W.heap.size W w') := Lib.hid (fun W hW => HDIST.out q i W Aq cq An cn B hqlt hi (HRW.out W hW).1 (HRW.out W hW).2)
          have hqa : q < (allF k 0).length := by rw [HNN.out]; exact hqlt
          have hxp : Pos k ((allF k 0).getD q []) := all_at hqa
          have hvb := HVI.out _ hxp
          have hcb := code_bd hk3 hxp
          have HTE : Hid (T'.getD (codeI ((allF k 0).getD q [])).toNat 0 = works k (dist s) (c.take (i + 1)) ((allF k 0).getD q [])) := Lib.hid (HTB2.out.2 _ hxp)
          have HTLn : Hid (T'.length = 29791) := Lib.hid HTB2.out.1
          have HVQ : Hid (v ((allF k 0).getD q []) = works k (dist s) (c.take (i + 1)) ((allF k 0).getD q []) + dist (fsP k s c i) ((allF k 0).getD q [])) := Lib.hid (by rw [HV.out])
          have HS1 := Lib.hid (fun h1 h2 => srch_step HSR.out hqa (by rw [HVQ.out]; omega) h1 h2)
          have HS2 := Lib.hid (fun h1 => srch_stay HSR.out hqa h1)
          obtain ⟨hb, hhb⟩ : ∃ hb, ((allF k 0).getD q []).contains f = hb := ⟨_, rfl⟩
          obtain ⟨co, hco⟩ : ∃ co, codeI ((allF k 0).getD q []) = co := ⟨_, rfl⟩
          obtain ⟨wv, hwv⟩ : ∃ wv, works k (dist s) (c.take (i + 1)) ((allF k 0).getD q []) = wv := ⟨_, rfl⟩
          obtain ⟨dv, hdv⟩ : ∃ dv, dist (fsP k s c i) ((allF k 0).getD q []) = dv := ⟨_, rfl⟩
          obtain ⟨vv, hvv⟩ : ∃ vv, v ((allF k 0).getD q []) = vv := ⟨_, rfl⟩
          rw [hhb] at HH1 HS1 HS2
          rw [hco] at HH2 hcb HTE
          rw [hdv] at HH3 hvb HVQ
          rw [hwv] at hvb HTE HVQ
          rw [hvv] at HVQ HS1 HS2
          have HBB := Lib.hid hcb
          have HVBB := Lib.hid hvb
          clear hrc hrow hqa hxp hhb hco hwv hdv hvv hcb hvb HSR
          cases hb with
          | false =>
            go_upto_region 13 with fail
            apply R.wp_region_tree2 10 (.fl 0 (.fl 1 (.fl 2 (.fl 3 (.fl 4 (.fl 5 (.fl 6 (.fl 7 (.go 8 (.go 9 .nil)))))))))) (fun w' => Below wk.heap.size wk w')
            case hm => kernel_rfl
            case hB => kernel_rfl
            case hQ => exact fun _ _ d _ _ h => by cases d <;> exact h
            case hS => exact (Below.refl _ _).drew
            case h =>
            refine R.wpTree2_fl (.slice (some ae) N ce) rfl rfl (fun w' hS => by obtain ⟨z1, z2⟩ := HX.out w' hS; go_simp) ?_
            try go_frame
            refine R.wpTree2_fl (.int .i64 (q : Int)) rfl rfl (fun w' hS => by obtain ⟨z1, z2⟩ := HX.out w' hS; go_simp) ?_
            try go_frame
            refine R.wpTree2_fl (.pointer (some (ae.add q))) rfl rfl (fun w' hS => by obtain ⟨z1, z2⟩ := HX.out w' hS; go_simp) ?_
            try go_frame
            refine R.wpTree2_fl (.slice Aq k cq) rfl rfl (fun w' hS => by obtain ⟨z1, z2⟩ := HX.out w' hS; go_simp) ?_
            try go_frame
            refine R.wpTree2_fl (.slice (some ad) n cc) rfl rfl (fun w' hS => by obtain ⟨z1, z2⟩ := HX.out w' hS; go_simp) ?_
            try go_frame
            refine R.wpTree2_fl (.int .i64 (i : Int)) rfl rfl (fun w' hS => by obtain ⟨z1, z2⟩ := HX.out w' hS; go_simp) ?_
            try go_frame
            refine R.wpTree2_fl (.pointer (some (ad.add i))) rfl rfl (fun w' hS => by obtain ⟨z1, z2⟩ := HX.out w' hS; go_simp) ?_
            try go_frame
            refine R.wpTree2_fl (.int .i64 f) rfl rfl (fun w' hS => by obtain ⟨z1, z2⟩ := HX.out w' hS; go_simp) ?_
            try go_frame
            refine R.wpTree2_go rfl rfl true rfl (fun K hK => ?_)
            go_simp
            refine (HH1.out _ (Below.refl _ _).drew).mono ?_
            rintro e w5 ⟨rfl, hb5⟩
            have hS5 : Below wk.heap.size wk w5 := (Below.refl _ _).drew.trans hb5
            refine hK _ _ (fun _ => hS5) ?_
            clear hK K hb5
            try go_frame
            refine R.wpTree2_go rfl rfl true rfl (fun K hK => ?_)
            go_simp
            refine hK _ _ (fun _ => hS5) ?_
            clear hK K
            refine R.wpTree2_nil ?_
            try go_frame
            have HF := Lib.hid (HBk.out.trans (hS5.mono HBk.out.size))
            have HSN := Lib.hid (HS2.out (.inl rfl))
            clear hS5
            go_wp2_with fail
            exact ⟨⟨q + 1, b, a, by go_num, rfl, rfl, by omega, HSN, HF⟩, by simp [intOf]; omega⟩
          | true =>
            go_upto_region 13 with fail
            apply R.wp_region_tree2 10 (.fl 0 (.fl 1 (.fl 2 (.fl 3 (.fl 4 (.fl 5 (.fl 6 (.fl 7 (.go 8 (.go 9 .nil)))))))))) (fun w' => Below wk.heap.size wk w')
            case hm => kernel_rfl
            case hB => kernel_rfl
            case hQ => exact fun _ _ d _ _ h => by cases d <;> exact h
            case hS => exact (Below.refl _ _).drew
            case h =>
            refine R.wpTree2_fl (.slice (some ae) N ce) rfl rfl (fun w' hS => by obtain ⟨z1, z2⟩ := HX.out w' hS; go_simp) ?_
            try go_frame
            refine R.wpTree2_fl (.int .i64 (q : Int)) rfl rfl (fun w' hS => by obtain ⟨z1, z2⟩ := HX.out w' hS; go_simp) ?_
            try go_frame
            refine R.wpTree2_fl (.pointer (some (ae.add q))) rfl rfl (fun w' hS => by obtain ⟨z1, z2⟩ := HX.out w' hS; go_simp) ?_
            try go_frame
            refine R.wpTree2_fl (.slice Aq k cq) rfl rfl (fun w' hS => by obtain ⟨z1, z2⟩ := HX.out w' hS; go_simp) ?_
            try go_frame
            refine R.wpTree2_fl (.slice (some ad) n cc) rfl rfl (fun w' hS => by obtain ⟨z1, z2⟩ := HX.out w' hS; go_simp) ?_
            try go_frame
            refine R.wpTree2_fl (.int .i64 (i : Int)) rfl rfl (fun w' hS => by obtain ⟨z1, z2⟩ := HX.out w' hS; go_simp) ?_
            try go_frame
            refine R.wpTree2_fl (.pointer (some (ad.add i))) rfl rfl (fun w' hS => by obtain ⟨z1, z2⟩ := HX.out w' hS; go_simp) ?_
            try go_frame
            refine R.wpTree2_fl (.int .i64 f) rfl rfl (fun w' hS => by obtain ⟨z1, z2⟩ := HX.out w' hS; go_simp) ?_
            try go_frame
            refine R.wpTree2_go rfl rfl true rfl (fun K hK => ?_)
            go_simp
            refine (HH1.out _ (Below.refl _ _).drew).mono ?_
            rintro e w5 ⟨rfl, hb5⟩
            have hS5 : Below wk.heap.size wk w5 := (Below.refl _ _).drew.trans hb5
            refine hK _ _ (fun _ => hS5) ?_
            clear hK K hb5
            try go_frame
            refine R.wpTree2_go rfl rfl true rfl (fun K hK => ?_)
            go_simp
            refine hK _ _ (fun _ => hS5) ?_
            clear hK K
            refine R.wpTree2_nil ?_
            try go_frame
            have HW5 : Hid (Below wk.heap.size wk w5) := Lib.hid hS5
            have HTC : Hid (∀ W, Below wk.heap.size wk W → W.cell? ⟨gt, co.toNat, none⟩ = some (.int .i64 wv)) := Lib.hid (fun W hW => by
              have h9 := HTCE.out W co.toNat (HBk.out.trans (hW.mono HBk.out.size)) (by have := HBB.out; omega)
              rw [HTE.out] at h9; exact h9)
            clear hS5
            go_upto_region 14 with fail
            have hco0 : 0 ≤ co := HBB.out.1
            have hco1 : co < 29791 := HBB.out.2
            have hwr : IntKind.i64.wrap (wv + dv) = vv := by rw [IntWalk.i64_in _ (by have := HVBB.out; omega), HVQ.out]
            apply R.wp_region_tree2 16 (.fl 0 (.fl 1 (.fl 2 (.fl 3 (.fl 4 (.fl 8 (.fl 9 (.fl 10 (.fl 11 (.fl 12 (.go 5 (.fl 6 (.fl 7 (.go 13 (.go 14 (.go 15 .nil)))))))))))))))) (fun w' => Below wk.heap.size wk w')
            case hm => kernel_rfl
            case hB => kernel_rfl
            case hQ => exact fun _ _ d _ _ h => by cases d <;> exact h
            case hS => exact HW5.out.drew
            case h =>
            refine R.wpTree2_fl (.slice (some ⟨gt, 0, none⟩) 29791 capt) rfl rfl (fun w' hS => by obtain ⟨z1, z2⟩ := HX.out w' hS; go_simp) ?_
            try go_frame
            refine R.wpTree2_fl (.slice (some ae) N ce) rfl rfl (fun w' hS => by obtain ⟨z1, z2⟩ := HX.out w' hS; go_simp) ?_
            try go_frame
            refine R.wpTree2_fl (.int .i64 (q : Int)) rfl rfl (fun w' hS => by obtain ⟨z1, z2⟩ := HX.out w' hS; go_simp) ?_
            try go_frame
            refine R.wpTree2_fl (.pointer (some (ae.add q))) rfl rfl (fun w' hS => by obtain ⟨z1, z2⟩ := HX.out w' hS; go_simp) ?_
            try go_frame
            refine R.wpTree2_fl (.slice Aq k cq) rfl rfl (fun w' hS => by obtain ⟨z1, z2⟩ := HX.out w' hS; go_simp) ?_
            try go_frame
            refine R.wpTree2_fl (.slice An k cn) rfl rfl (fun w' hS => by obtain ⟨z1, z2⟩ := HX.out w' hS; go_simp) ?_
            try go_frame
            refine R.wpTree2_fl (.slice (some ae) N ce) rfl rfl (fun w' hS => by obtain ⟨z1, z2⟩ := HX.out w' hS; go_simp) ?_
            try go_frame
            refine R.wpTree2_fl (.int .i64 (q : Int)) rfl rfl (fun w' hS => by obtain ⟨z1, z2⟩ := HX.out w' hS; go_simp) ?_
            try go_frame
            refine R.wpTree2_fl (.pointer (some (ae.add q))) rfl rfl (fun w' hS => by obtain ⟨z1, z2⟩ := HX.out w' hS; go_simp) ?_
            try go_frame
            refine R.wpTree2_fl (.slice Aq k cq) rfl rfl (fun w' hS => by obtain ⟨z1, z2⟩ := HX.out w' hS; go_simp) ?_
            try go_frame
            refine R.wpTree2_go rfl rfl true rfl (fun K hK => ?_)
            go_simp
            refine (HH2.out _ HW5.out.drew).mono ?_
            rintro e w6 ⟨rfl, hb6⟩
            have hS6 : Below wk.heap.size wk w6 := HW5.out.drew.trans (hb6.mono HW5.out.size)
            refine hK _ _ (fun _ => hS6) ?_
            clear hK K hb6
            try go_frame
            refine R.wpTree2_fl (.pointer (some ⟨gt, co.toNat, none⟩)) rfl rfl (fun w' hS => by obtain ⟨z1, z2⟩ := HX.out w' hS; go_simp) ?_
            try go_frame
            refine R.wpTree2_fl (.int .i64 wv) rfl rfl (fun w' hS => by have z3 := HTC.out w' hS; go_simp) ?_
            try go_frame
            refine R.wpTree2_go rfl rfl true rfl (fun K hK => ?_)
            go_simp
            refine (HH3.out _ hS6).mono ?_
            rintro e w7 ⟨rfl, hb7⟩
            have hS7 : Below wk.heap.size wk w7 := hS6.trans (hb7.mono hS6.size)
            refine hK _ _ (fun _ => hS7) ?_
            clear hK K hb7
            try go_frame
            refine R.wpTree2_go rfl rfl true rfl (fun K hK => ?_)
            go_simp
            refine hK _ _ (fun _ => hS7) ?_
            clear hK K
            try go_frame
            refine R.wpTree2_go rfl rfl true rfl (fun K hK => ?_)
            go_simp
            refine hK _ _ (fun _ => hS7) ?_
            clear hK K
            refine R.wpTree2_nil ?_
            try go_frame
            have HF := Lib.hid (HBk.out.trans (hS7.mono HBk.out.size))
            clear hS7 hS6 hwr hco0 hco1
            by_cases c1 : a < 0
            · have HSN := Lib.hid (HS1.out rfl (.inl c1))
              go_wp2_with fail
              exact ⟨⟨q + 1, vv, q, by go_num, rfl, rfl, by omega, HSN, HF⟩, by simp [intOf]; omega⟩
            · by_cases c2 : vv < b
              · have HSN := Lib.hid (HS1.out rfl (.inr c2))
                go_wp2_with fail
                exact ⟨⟨q + 1, vv, q, by go_num, rfl, rfl, by omega, HSN, HF⟩, by simp [intOf]; omega⟩
              · have HSN := Lib.hid (HS2.out (.inr ⟨c1, c2⟩))
                go_wp2_with fail
                exact ⟨⟨q + 1, b, a, by go_num, rfl, rfl, by omega, HSN, HF⟩, by simp [intOf]; omega⟩
        · obtain rfl : q = N := by omega
          have hge : ¬ (q : Int) < (q : Int) := by omega
          obtain ⟨j, hj, rfl, hjc⟩ := srch_end (v := v) hk1 HFL.out.1 HFL.out.2 (fun x hx => by have := HVI.out x hx; rw [HV.out]; show 0 ≤ works k (dist s) (c.take (i + 1)) x + dist (fsP k s c i) x; omega) (by rw [HNN.out]; exact HSR.out)
          rw [HNN.out] at hj
          rw [← HST.out] at hjc
          obtain ⟨ae, Aj, cj, rfl, hrc, hrow⟩ := HROW.out j hj
          rw [hjc] at hrow
          have hBwk : Below B w2 wk := HB3.out.trans (HBk.out.mono (by have := HB3.out.size; have := HBE.out; omega))
          have hrck : wk.cell? (ae.add j) = some (.slice Aj k cj) := (hBwk.cell (by have := World.block_lt_of_cell? w2 _ hrc; have := HBE.out; omega)).trans hrc
          have HR2 := Lib.hid (hrow.below (by rw [HBE.out]; exact hBwk))
          have HBW := Lib.hid hBwk
          have HS2 : Hid (Kd.S hdK 22 wk B (fun _ => True) u8 hs) := Lib.hid (Kd.S_below HS3.out HBk.out)
          have HO2 : Hid (∀ j, j < i → RowAt B wk (hs.getD j (none, 0, 0)) (fsP k s c (j + 1))) := Lib.hid (fun j hj => (HO3.out j hj).below HBk.out)
          have HT4 : Hid (Kd.R (Kd.int .i64) 3 wk w1.heap.size (fun _ => True) (.slice (some ⟨gt, 0, none⟩) 29791 capt) T') := Lib.hid (Kd.R_below HT3.out HBk.out)
          have hj0 : (0 : Int) ≤ (j : Int) := by omega
          have hj1 : (j : Int) < (q : Int) := by omega
          clear hrc hrow hBwk hjc HSR HBk HB3 HS3 HO3 HT3
          have hBs : B ≤ wk.heap.size := by have := HBW.out.size; have := HBE.out; omega
          go_wp2_with (at_builtin; refine Kd.S_append hdK (w0 := wk) B rfl (.tmp 78) (.tmp 80) 23 22 (.slice none 0 0) 24 rfl Try.underlying23 info22 rfl (by decide) (by omega) _ hs (Aj, k, cj) [.slice Aj k cj] (fun _ => True) (fun _ => False) rfl rfl ?aP (fun _ h => h.elim) (fun _ _ => trivial) ?aO ?aB ?aS ?aL ?_)
          case aP => exact rfl
          case aO => exact Kd.S_mono HS2.out (fun _ _ => by simp)
          case aB => exact Below.refl _ _
          case aL => rw [HL.out]; omega
          intro v1 wf hS1 hB1 hG1 _
          have hown : ∀ b, u8.ownBlock = some b → B ≤ b ∧ ∃ cells, wk.heap[b]? = some (.cells cells 22 (0, 0)) := fun b hb => ⟨Kd.S_base HS2.out b hb, Kd.S_typed HS2.out b hb⟩
          have HR1 := Lib.hid (HR2.out.grown hG1 hown)
          have HS1 := Lib.hid hS1
          have HB1' : Hid (Below B w2 wf) := Lib.hid (HBW.out.grown hG1 hBs (fun j e => (hown j e).1))
          have HL1 : Hid ((hs ++ [(Aj, k, cj)]).length = i + 1) := Lib.hid (by rw [List.length_append, HL.out]; rfl)
          have HT5 : Hid (Kd.R (Kd.int .i64) 3 wf w1.heap.size (fun _ => True) (.slice (some ⟨gt, 0, none⟩) 29791 capt) T') := Lib.hid (Kd.R_over' (e' := 22) HT4.out (fun b hb => (hown b hb).2) (fun q hq => by simp [Kd.int, Kd.scalar] at hq; omega) hG1)
          have HO1 : Hid (∀ j', j' < i + 1 → RowAt B wf ((hs ++ [(Aj, k, cj)]).getD j' (none, 0, 0)) (fsP k s c (j' + 1))) := Lib.hid (fun j' hj' => by
            by_cases e : j' = i
            · subst e
              rw [List.getD_eq_getElem?_getD, List.getElem?_append_right (by rw [HL.out]; omega), HL.out, Nat.sub_self]
              exact HR1.out
            · rw [List.getD_eq_getElem?_getD, List.getElem?_append_left (by rw [HL.out]; omega), ← List.getD_eq_getElem?_getD]
              exact (HO2.out j' (by omega)).grown hG1 hown)
          clear hS1 hB1 hG1 hown
          go_wp2_with fail
          exact ⟨⟨i + 1, hs ++ [(Aj, k, cj)], Aj, cj, T', by go_num, rfl, by omega, HL1, HS1, HR1, HO1, HT5, HTB2, HB1'⟩, by simp [intOf]; omega⟩
    · obtain rfl : i = n := by omega
      have hge : ¬ (i : Int) < (i : Int) := by omega
      have hfin := heads_C HS.out (by rw [HL.out, HRL.out]) (fun j hj => by rw [HRL.out] at hj; rw [HLEN.out j hj]; exact HO.out j hj)
      rw [HRL.out] at hfin
      obtain ⟨Eo, co, ev, hco, hEo⟩ := hfin
      subst ev
      have HEo := Lib.hid hEo
      clear hEo
      go_wp2_with fail
      go_ret
      exact ⟨Eo, co, rfl, hco, HEo.out, HB2.out.trans (HBr.out.mono (by have := HB2.out.size; have := HBE.out; omega))⟩
end Go.Proofs.Ytakbijpcfnipoaa.L
