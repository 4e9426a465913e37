/- What the statements of this seat lean on: the functions that they reach, walked. -/
import Derived.Test.YtcpojohpmcnnhaaZw4
set_option linter.unusedSimpArgs false
set_option linter.unusedVariables false

set_option linter.unusedVariables false
set_option linter.unusedSimpArgs false
namespace Go.Proofs.Ytcpojohpmcnnhaa.AP
open Go.RowKit Go.Proofs.YtcpojohpmcnnhaaW.PrintWords Go.Proofs.YtcpojohpmcnnhaaW.PrintLast Go.Proofs.YtcpojohpmcnnhaaW.PrintMore
open Go.Proofs.Ytcpojohpmcnnhaa.PA Go.Proofs.Ytcpojohpmcnnhaa.A
theorem set4_comm (w : World) {b i j : Nat} {u1 u2 v1 v2 : Value} (h : i ≠ j) : (((w.setCell ⟨b, i * 2, none⟩ u1).setCell ⟨b, i * 2 + 1, none⟩ u2).setCell ⟨b, j * 2, none⟩ v1).setCell ⟨b, j * 2 + 1, none⟩ v2 = (((w.setCell ⟨b, j * 2, none⟩ v1).setCell ⟨b, j * 2 + 1, none⟩ v2).setCell ⟨b, i * 2, none⟩ u1).setCell ⟨b, i * 2 + 1, none⟩ u2 := by
  rw [setCell_comm (w.setCell ⟨b, i * 2, none⟩ u1) (i := i * 2 + 1) (j := j * 2) (by omega), setCell_comm _ (i := i * 2 + 1) (j := j * 2 + 1) (by omega), setCell_comm w (i := i * 2) (j := j * 2) (by omega), setCell_comm (w.setCell ⟨b, j * 2, none⟩ v1) (i := i * 2) (j := j * 2 + 1) (by omega)]
def CmpS (key : Nat → Int) (enc : Nat → Int × Value) (n blk g : Nat) (cb : Array Value) (w0 : World) : Prop := ∀ W, R.Keeps [blk] w0 W → ∀ x y, x < n → y < n → Calls Try.prog g (#[valP enc x, valP enc y] ++ cb) W fun e w' => ∃ c, e = .returned (.int .i64 c) ∧ (c < 0 ↔ key x < key y) ∧ Below W.heap.size W w'
def Merged (key : Nat → Int) (enc : Nat → Int × Value) (tail : List Value) (blk : Nat) (P X Y S : List Nat) (w : World) (e : Ending) (w' : World) : Prop :=
  e = .returned (.tuple #[]) ∧ ∃ Z : List Nat, Z.Perm (X ++ Y) ∧ Srt key Z ∧ R.Keeps [blk] w w' ∧ RowS enc tail blk (P ++ (Z ++ S)) w'
set_option maxHeartbeats 4000000 in
set_option maxRecDepth 100000 in
theorem merge1_c {key : Nat → Int} {enc : Nat → Int × Value} (henc : ∀ x, ∃ a n c, (enc x).2 = .slice a n c) {tail : List Value} {blk cap n g : Nat} {cb : Array Value} {w0 : World} (eg : A.Enters g) (hC : CmpS key enc n blk g cb w0)
    (P : List Nat) (x : Nat) (Y S : List Nat) (N : Nat) (w : World) (hK0 : R.Keeps [blk] w0 w) (h : RowS enc tail blk (P ++ ([x] ++ (Y ++ S))) w) (hN : (P ++ ([x] ++ (Y ++ S))).length = N) (hn : N < 1000000)
    (hY0 : 0 < Y.length) (hY : Srt key Y) (hxy : ∀ y, y ∈ Y → x < y) (hx : x < n) (hy : ∀ y, y ∈ Y → y < n) :
    Calls Try.prog 98 #[.slice (some ⟨blk, 0, none⟩) N cap, .int .i64 (P.length : Int), .int .i64 ((P.length + 1 : Nat) : Int), .int .i64 ((P.length + 1 + Y.length : Nat) : Int), .func (.func g) #[] cb] w (Merged key enc tail blk P [x] Y S w) := by
  unfold A.Enters at eg
  have mixed : Try.prog.follows Departure.mixedOrders = true := by kernel_rfl
  have hNs : P.length + 1 + Y.length + S.length = N := by rw [← hN]; simp; omega
  have HR0 := Lib.hid h
  have HC := Lib.hid hC
  have HK0 := Lib.hid hK0
  have HXY := Lib.hid hxy
  have HY := Lib.hid hY
  have HYN := Lib.hid hy
  obtain ⟨a, ha⟩ : ∃ a, P.length = a := ⟨_, rfl⟩
  obtain ⟨l, hl⟩ : ∃ l, Y.length = l := ⟨_, rfl⟩
  rw [ha, hl] at hNs
  rw [hl] at hY0
  rw [ha, hl]
  have HL := Lib.hid (And.intro ha hl)
  clear h hC hK0 hxy hY hy hN ha hl
  obtain ⟨m, hm⟩ : ∃ m, a + 1 = m := ⟨_, rfl⟩
  obtain ⟨b, hb⟩ : ∃ b, m + l = b := ⟨_, rfl⟩
  rw [hm, hb]
  have e1 : (m : Int) - (a : Int) = 1 := by omega
  have ham : a < 1000000 := by omega
  have hbm : b < 1000000 := by omega
  go_enter Try.func98, Try.ntmps98
  go_wp2_with fail
  go_loopw [10, 11] (fun v10 v11 wr => ∃ (i j : Nat), v10 = .int .i64 ((m + i : Nat) : Int) ∧ v11 = .int .i64 ((m + j : Nat) : Int) ∧ i ≤ j ∧ j ≤ l ∧ Hid (i = 0 ∨ lx key (Y.getD (i - 1) 0) x) ∧ Hid (j = l ∨ lx key x (Y.getD j 0)) ∧ Hid (R.Keeps [] w wr)) (fun v10 v11 _ => (intOf v11).toNat - (intOf v10).toNat)
  case atStart => exact ⟨0, l, rfl, by rw [hb], by omega, Nat.le_refl _, Lib.hid (.inl rfl), Lib.hid (.inl rfl), Lib.hid (R.Keeps.refl _ _)⟩
  case round =>
    rename World => wr
    obtain ⟨i, j, rfl, rfl, hij, hjl, HI, HJ, HK⟩ := hrel
    by_cases hlt : i < j
    · obtain ⟨q, hq⟩ : ∃ q, (i + j) / 2 = q := ⟨_, rfl⟩
      obtain ⟨c, hc⟩ : ∃ c, m + q = c := ⟨_, rfl⟩
      obtain ⟨i1, hi1⟩ : ∃ i1, m + i = i1 := ⟨_, rfl⟩
      obtain ⟨j1, hj1⟩ : ∃ j1, m + j = j1 := ⟨_, rfl⟩
      rw [hi1, hj1]
      have hlt' : (i1 : Int) < (j1 : Int) := by omega
      obtain ⟨t, ht⟩ : ∃ t, i1 + j1 = t := ⟨_, rfl⟩
      have hti : (i1 : Int) + (j1 : Int) = (t : Int) := by omega
      have htc : t / 2 = c := by omega
      have htc' : (t : Int) / 2 = (c : Int) := by omega
      have wt := wr_small (x := t) (by omega)
      have wc := wr_small (x := c) (by omega)
      have wc1 := wr_small (x := c + 1) (by omega)
      have hcN : (c : Int) < (N : Int) := by omega
      have haN : (a : Int) < (N : Int) := by omega
      obtain ⟨yq, hyq⟩ : ∃ yq, Y.getD q 0 = yq := ⟨_, rfl⟩
      have hql : q < Y.length := by rw [HL.out.2]; omega
      have hmem : yq ∈ Y := by rw [← hyq, List.getD_eq_getElem?_getD, List.getElem?_eq_getElem hql]; exact List.getElem_mem hql
      have hxq := HXY.out yq hmem
      have hyn := HYN.out yq hmem
      have hsplit : Y = Y.take q ++ yq :: Y.drop (q + 1) := by
        have : yq = Y[q] := by rw [← hyq, List.getD_eq_getElem?_getD, List.getElem?_eq_getElem hql]; rfl
        rw [this, List.getElem_cons_drop, List.take_append_drop]
      have hRr := HR0.out.keep HK.out
      have c1 : wr.cell? ⟨blk, c * 2, none⟩ = some (.int .i64 (enc yq).1) := hRr.cell0 (A := P ++ [x] ++ Y.take q) (x := yq) (B := Y.drop (q + 1) ++ S) (by rw [List.append_assoc, List.append_assoc, ← List.cons_append, ← List.append_assoc (Y.take q), ← hsplit]) (by simp [HL.out.1]; omega)
      have c1b : wr.cell? ⟨blk, c * 2 + 1, none⟩ = some (enc yq).2 := hRr.cell1 (A := P ++ [x] ++ Y.take q) (x := yq) (B := Y.drop (q + 1) ++ S) (by rw [List.append_assoc, List.append_assoc, ← List.cons_append, ← List.append_assoc (Y.take q), ← hsplit]) (by simp [HL.out.1]; omega)
      have c2 : wr.cell? ⟨blk, a * 2, none⟩ = some (.int .i64 (enc x).1) := hRr.cell0 (A := P) (x := x) (B := Y ++ S) rfl HL.out.1.symm
      have c2b : wr.cell? ⟨blk, a * 2 + 1, none⟩ = some (enc x).2 := hRr.cell1 (A := P) (x := x) (B := Y ++ S) rfl HL.out.1.symm
      obtain ⟨eu, heu⟩ : ∃ x_, (enc yq).1 = x_ := ⟨_, rfl⟩
      obtain ⟨au, nu, cu, hfu⟩ := henc yq
      have hvu : Value.agg #[.int .i64 eu, .slice au nu cu] = valP enc yq := by unfold valP; rw [heu, hfu]
      obtain ⟨ev, hev⟩ : ∃ x_, (enc x).1 = x_ := ⟨_, rfl⟩
      obtain ⟨av, nv, cv, hfv⟩ := henc x
      have hvv : Value.agg #[.int .i64 ev, .slice av nv cv] = valP enc x := by unfold valP; rw [hev, hfv]
      rw [heu] at c1
      rw [hfu] at c1b
      rw [hev] at c2
      rw [hfv] at c2b
      have CE : Hid (∀ w', R.Keeps [] wr w' → w'.cell? ⟨blk, c * 2, none⟩ = some (.int .i64 eu) ∧ w'.cell? ⟨blk, c * 2 + 1, none⟩ = some (.slice au nu cu) ∧ w'.cell? ⟨blk, a * 2, none⟩ = some (.int .i64 ev) ∧ w'.cell? ⟨blk, a * 2 + 1, none⟩ = some (.slice av nv cv)) := Lib.hid (fun w' hw => ⟨hw.cell c1 (by simp), hw.cell c1b (by simp), hw.cell c2 (by simp), hw.cell c2b (by simp)⟩)
      have HKW := Lib.hid (HK0.out.trans HK.out (fun k hk => by simp at hk))
      have HQ := Lib.hid hyq
      have HEN := Lib.hid (And.intro (And.intro heu hfu) (And.intro (And.intro hev hfv) (And.intro hvu hvv)))
      clear hvu hvv
      clear hsplit hmem hyq c1 c1b c2 c2b hRr hql
      go_wp2_with fail
      apply R.wp_region_text [0, 1, 2, 3, 4, 5, 6, 7, 8] [9, 10] 11 (R.Keeps [] wr)
      case hm => kernel_rfl
      case hB => kernel_rfl
      case hd => rfl
      case hQ => exact fun _ _ _ _ _ h => h
      case hS => exact (R.Keeps.refl _ _).drew
      case hF =>
        intro w' hS
        obtain ⟨y0, y0b, y1, y1b⟩ := CE.out w' hS
        clear hS
        simp only [R.pickC, List.filterMap_cons, List.getElem?_toArray, List.getElem?_cons_zero, List.getElem?_cons_succ, List.filterMap_nil]
        (with_reducible refine R.wpStill_plain rfl (fun K hK => ?_)); go_simp; with_reducible refine hK _ ?_; clear hK K
        (with_reducible refine R.wpStill_plain rfl (fun K hK => ?_)); go_simp; with_reducible refine hK _ ?_; clear hK K
        (with_reducible refine R.wpStill_plain rfl (fun K hK => ?_)); go_simp; with_reducible refine hK _ ?_; clear hK K
        (with_reducible refine R.wpStill_plain rfl (fun K hK => ?_)); go_simp; with_reducible refine hK _ ?_; clear hK K
        (with_reducible refine R.wpStill_plain rfl (fun K hK => ?_)); go_simp; with_reducible refine hK _ ?_; clear hK K
        (with_reducible refine R.wpStill_plain rfl (fun K hK => ?_)); go_simp; with_reducible refine hK _ ?_; clear hK K
        (with_reducible refine R.wpStill_plain rfl (fun K hK => ?_)); go_simp; with_reducible refine hK _ ?_; clear hK K
        (with_reducible refine R.wpStill_plain rfl (fun K hK => ?_)); go_simp; with_reducible refine hK _ ?_; clear hK K
        (with_reducible refine R.wpStill_plain rfl (fun K hK => ?_)); go_simp; with_reducible refine hK _ ?_; clear hK K
        exact wpStill_nil rfl
      case hC =>
        simp only [R.chainOf, List.getElem?_toArray, List.getElem?_cons_zero, List.getElem?_cons_succ, Nat.reduceBNe, Bool.and_true, Bool.and_false, Bool.false_and]
        refine R.wpSeq_same (fun K hK => ?_)
        go_simp
        rw [HEN.out.2.2.1, HEN.out.2.2.2]
        refine (HC.out _ HKW.out.drew yq x hyn hx).mono ?_
        rintro e w2 ⟨cr, rfl, hcr, hB2⟩
        have hK2 : R.Keeps [] wr w2 := ((R.Keeps.refl [] _).drew).trans (R.Keeps.of_below [] hB2) (fun k hk => by simp at hk)
        refine hK _ _ hK2 ?_
        clear hK K
        have HK2 := Lib.hid hK2
        clear hB2 hK2
        by_cases hneg : cr < 0
        · have HNEG : Hid (lx key yq x) := Lib.hid (.inl (hcr.1 hneg))
          clear hcr
          refine R.wpSeq_same (fun K hK => ?_)
          go_simp
          with_reducible refine hK _ _ HK2.out ?_
          clear hK K
          refine R.wpSeq_nil ?_
          go_wp2_with fail
          refine ⟨⟨q + 1, j, by go_num, by go_num, by omega, hjl, Lib.hid (.inr (by rw [Nat.add_sub_cancel, HQ.out]; exact HNEG.out)), HJ, Lib.hid (HK.out.trans HK2.out (fun k hk _ => hk))⟩, by simp [intOf]; omega⟩
        · have HNEG : Hid (lx key x yq) := Lib.hid (lx.not (fun hh => hneg (hcr.2 ((lx_right hxq).1 hh))) (by omega))
          have hnn : decide (cr < 0) = false := decide_eq_false hneg
          clear hcr
          refine R.wpSeq_same (fun K hK => ?_)
          go_simp
          with_reducible refine hK _ _ HK2.out ?_
          clear hK K
          refine R.wpSeq_nil ?_
          go_wp2_with fail
          refine ⟨⟨i, q, by go_num, by go_num, by omega, by omega, HI, Lib.hid (.inr (by rw [HQ.out]; exact HNEG.out)), Lib.hid (HK.out.trans HK2.out (fun k hk _ => hk))⟩, by simp [intOf]; omega⟩
    · obtain rfl : i = j := by omega
      obtain ⟨i1, hi1⟩ : ∃ i1, m + i = i1 := ⟨_, rfl⟩
      obtain ⟨z1, hz1⟩ : ∃ z1, a + i = z1 := ⟨_, rfl⟩
      rw [hi1]
      have hzi : (i1 : Int) - 1 = (z1 : Int) := by omega
      have wz := wr_small (x := z1) (by omega)
      have hil : i ≤ Y.length := by rw [HL.out.2]; omega
      have hti : (Y.take i).length = i := by simp; omega
      have HTI := Lib.hid hti
      have HR1 : Hid (RowS enc tail blk (P ++ ([] ++ (x :: (Y.take i ++ (Y.drop i ++ S))))) wr) := Lib.hid (by have := HR0.out.keep HK.out; rw [← List.append_assoc (Y.take i), List.take_append_drop]; exact this)
      clear hti
      go_wp2_with fail
      go_loopw [13] (fun v13 wq => ∃ (A B : List Nat), v13 = .int .i64 ((a + A.length : Nat) : Int) ∧ A.length ≤ i ∧ Hid (Y.take i = A ++ B) ∧ Hid (RowS enc tail blk (P ++ (A ++ (x :: (B ++ (Y.drop i ++ S))))) wq) ∧ Hid (R.Keeps [blk] w wq)) (fun v13 _ => z1 - (intOf v13).toNat)
      case atStart => exact ⟨[], Y.take i, rfl, Nat.zero_le _, Lib.hid rfl, HR1, Lib.hid (HK.out.mono (fun k hk => by simp at hk))⟩
      case round =>
        rename World => wq
        obtain ⟨A, B, rfl, hAi, HAB, HRq, HKq⟩ := hrel
        obtain ⟨k, hk⟩ : ∃ k, a + A.length = k := ⟨_, rfl⟩
        rw [hk]
        by_cases hlt2 : k < z1
        · obtain ⟨y, B', rfl⟩ : ∃ y B', B = y :: B' := by
            cases B with
            | nil => exfalso; have h1 := HTI.out; rw [HAB.out] at h1; simp at h1; omega
            | cons y B' => exact ⟨y, B', rfl⟩
          have hlt2' : (k : Int) < (z1 : Int) := by omega
          obtain ⟨k1, hk1⟩ : ∃ k1, k + 1 = k1 := ⟨_, rfl⟩
          have hkk : (k : Int) + 1 = (k1 : Int) := by omega
          have wk := wr_small (x := k1) (by omega)
          have b1 : (k : Int) < (N : Int) := by omega
          have b2 : (k1 : Int) < (N : Int) := by omega
          have hsp : P ++ (A ++ (x :: (y :: B' ++ (Y.drop i ++ S)))) = (P ++ A) ++ x :: ([] ++ y :: (B' ++ (Y.drop i ++ S))) := by simp
          have ha : k = (P ++ A).length := by simp [HL.out.1, ← hk]
          have hb : k1 = (P ++ A).length + 1 + ([] : List Nat).length := by rw [← ha]; simp; omega
          have c1 : wq.cell? ⟨blk, k * 2, none⟩ = some (.int .i64 (enc x).1) := HRq.out.cell0 hsp ha
          have c1b : wq.cell? ⟨blk, k * 2 + 1, none⟩ = some (enc x).2 := HRq.out.cell1 hsp ha
          have c2 : wq.cell? ⟨blk, k1 * 2, none⟩ = some (.int .i64 (enc y).1) := HRq.out.cell0 (A := (P ++ A) ++ [x]) (x := y) (B := B' ++ (Y.drop i ++ S)) (by simp) (by rw [hb]; simp; omega)
          have c2b : wq.cell? ⟨blk, k1 * 2 + 1, none⟩ = some (enc y).2 := HRq.out.cell1 (A := (P ++ A) ++ [x]) (x := y) (B := B' ++ (Y.drop i ++ S)) (by simp) (by rw [hb]; simp; omega)
          have f1 := HRq.out.frozen (k * 2)
          have f1b := HRq.out.frozen (k * 2 + 1)
          have f2 := HRq.out.frozen (k1 * 2)
          have f2b := HRq.out.frozen (k1 * 2 + 1)
          obtain ⟨eu, heu⟩ : ∃ x_, (enc x).1 = x_ := ⟨_, rfl⟩
          obtain ⟨au, nu, cu, hfu⟩ := henc x
          have hvu : Value.agg #[.int .i64 eu, .slice au nu cu] = valP enc x := by unfold valP; rw [heu, hfu]
          obtain ⟨ev, hev⟩ : ∃ x_, (enc y).1 = x_ := ⟨_, rfl⟩
          obtain ⟨av, nv, cv, hfv⟩ := henc y
          have hvv : Value.agg #[.int .i64 ev, .slice av nv cv] = valP enc y := by unfold valP; rw [hev, hfv]
          rw [heu] at c1
          rw [hfu] at c1b
          rw [hev] at c2
          rw [hfv] at c2b
          have HEN := Lib.hid (And.intro (And.intro heu hfu) (And.intro (And.intro hev hfv) (And.intro hvu hvv)))
          clear hvu hvv
          have HSP := Lib.hid (And.intro hsp (And.intro ha hb))
          have HKA := Lib.hid hk
          clear heu hfu hev hfv ha hb hsp hk
          go_wp2_with fail
          go_big_region_o
          all_goals go_wp2_with fail
          all_goals
            refine ⟨⟨A ++ [y], B', by simp only [List.length_append, List.length_cons, List.length_nil]; have := HKA.out; congr 1; omega, by simp only [List.length_append, List.length_cons, List.length_nil]; have := HKA.out; omega, Lib.hid (by rw [HAB.out]; simp), ?_, Lib.hid ((((((HKq.out).setCell (by simp) _).setCell (by simp) _).setCell (by simp) _).setCell (by simp) _).drew)⟩, by simp [intOf]; omega⟩
            have h5 := HRq.out.swap HSP.out.1 HSP.out.2.1 HSP.out.2.2
            rw [HEN.out.1.1, HEN.out.1.2, HEN.out.2.1.1, HEN.out.2.1.2] at h5
            exact Lib.hid (by simpa using h5.keep ((R.Keeps.refl [] _).drew))
        · have hlt2' : ¬ (k : Int) < (z1 : Int) := by omega
          go_wp2_with fail
          go_end0
          have hB : B = [] := by
            have h1 := HTI.out
            rw [HAB.out] at h1
            simp at h1
            exact List.eq_nil_of_length_eq_zero (by omega)
          subst hB
          have hA : A = Y.take i := by have := HAB.out; simpa using this.symm
          subst hA
          have hYs := HY.out
          rw [← List.take_append_drop i Y] at hYs
          refine ⟨rfl, Y.take i ++ x :: Y.drop i, ?_, ?_, HKq.out, by simpa using HRq.out⟩
          · refine List.perm_middle.trans ?_
            rw [List.take_append_drop]
            exact List.Perm.refl _
          · refine put_in hYs ?_ ?_
            · rcases HI.out with h1 | h1
              · left; rw [h1]; rfl
              · by_cases h0 : i = 0
                · left; rw [h0]; rfl
                · right
                  rw [HTI.out]
                  have : (Y.take i).getD (i - 1) 0 = Y.getD (i - 1) 0 := by simp [List.getD_eq_getElem?_getD, List.getElem?_take, show i - 1 < i by omega]
                  rw [this]; exact h1
            · rcases HJ.out with h1 | h1
              · left; rw [h1]; exact List.drop_eq_nil_of_le (by rw [HL.out.2]; exact Nat.le_refl _)
              · right
                have : (Y.drop i).getD 0 0 = Y.getD i 0 := by simp [List.getD_eq_getElem?_getD]
                rw [this]; exact h1
set_option maxHeartbeats 4000000 in
set_option maxRecDepth 100000 in
theorem merge2_c {key : Nat → Int} {enc : Nat → Int × Value} (henc : ∀ x, ∃ a n c, (enc x).2 = .slice a n c) {tail : List Value} {blk cap n g : Nat} {cb : Array Value} {w0 : World} (eg : A.Enters g) (hC : CmpS key enc n blk g cb w0)
    (P X : List Nat) (y : Nat) (S : List Nat) (N : Nat) (w : World) (hK0 : R.Keeps [blk] w0 w) (h : RowS enc tail blk (P ++ (X ++ ([y] ++ S))) w) (hN : (P ++ (X ++ ([y] ++ S))).length = N) (hn : N < 1000000)
    (hX0 : 1 < X.length) (hX : Srt key X) (hxy : ∀ x, x ∈ X → x < y) (hx : ∀ x, x ∈ X → x < n) (hy : y < n) :
    Calls Try.prog 98 #[.slice (some ⟨blk, 0, none⟩) N cap, .int .i64 (P.length : Int), .int .i64 ((P.length + X.length : Nat) : Int), .int .i64 ((P.length + X.length + 1 : Nat) : Int), .func (.func g) #[] cb] w (Merged key enc tail blk P X [y] S w) := by
  unfold A.Enters at eg
  have mixed : Try.prog.follows Departure.mixedOrders = true := by kernel_rfl
  have hNs : P.length + X.length + 1 + S.length = N := by rw [← hN]; simp; omega
  have HR0 := Lib.hid h
  have HC := Lib.hid hC
  have HK0 := Lib.hid hK0
  have HXY := Lib.hid hxy
  have HX := Lib.hid hX
  have HXN := Lib.hid hx
  obtain ⟨a, ha⟩ : ∃ a, P.length = a := ⟨_, rfl⟩
  obtain ⟨l, hl⟩ : ∃ l, X.length = l := ⟨_, rfl⟩
  rw [ha, hl] at hNs
  rw [hl] at hX0
  rw [ha, hl]
  have HL := Lib.hid (And.intro ha hl)
  clear h hC hK0 hxy hX hx hN ha hl
  obtain ⟨m, hm⟩ : ∃ m, a + l = m := ⟨_, rfl⟩
  obtain ⟨b, hb⟩ : ∃ b, m + 1 = b := ⟨_, rfl⟩
  rw [hm, hb]
  have e0 : (m : Int) - (a : Int) = (l : Int) := by omega
  have e00 : ((l : Int) == 1) = false := by simp; omega
  have e01 : ¬ ((l : Int) = 1) := by omega
  have wl := wr_small (x := l) (by omega)
  have e1 : (b : Int) - (m : Int) = 1 := by omega
  have ham : a < 1000000 := by omega
  have hbm : b < 1000000 := by omega
  go_enter Try.func98, Try.ntmps98
  go_wp2_with fail
  go_loopw [14, 15] (fun v14 v15 wr => ∃ (i j : Nat), v14 = .int .i64 ((a + i : Nat) : Int) ∧ v15 = .int .i64 ((a + j : Nat) : Int) ∧ i ≤ j ∧ j ≤ l ∧ Hid (i = 0 ∨ lx key (X.getD (i - 1) 0) y) ∧ Hid (j = l ∨ lx key y (X.getD j 0)) ∧ Hid (R.Keeps [] w wr)) (fun v14 v15 _ => (intOf v15).toNat - (intOf v14).toNat)
  case atStart => exact ⟨0, l, rfl, by rw [hm], by omega, Nat.le_refl _, Lib.hid (.inl rfl), Lib.hid (.inl rfl), Lib.hid (R.Keeps.refl _ _)⟩
  case round =>
    rename World => wr
    obtain ⟨i, j, rfl, rfl, hij, hjl, HI, HJ, HK⟩ := hrel
    by_cases hlt : i < j
    · obtain ⟨q, hq⟩ : ∃ q, (i + j) / 2 = q := ⟨_, rfl⟩
      obtain ⟨c, hc⟩ : ∃ c, a + q = c := ⟨_, rfl⟩
      obtain ⟨i1, hi1⟩ : ∃ i1, a + i = i1 := ⟨_, rfl⟩
      obtain ⟨j1, hj1⟩ : ∃ j1, a + j = j1 := ⟨_, rfl⟩
      rw [hi1, hj1]
      have hlt' : (i1 : Int) < (j1 : Int) := by omega
      obtain ⟨t, ht⟩ : ∃ t, i1 + j1 = t := ⟨_, rfl⟩
      have hti : (i1 : Int) + (j1 : Int) = (t : Int) := by omega
      have htc : t / 2 = c := by omega
      have htc' : (t : Int) / 2 = (c : Int) := by omega
      have wt := wr_small (x := t) (by omega)
      have wc := wr_small (x := c) (by omega)
      have wc1 := wr_small (x := c + 1) (by omega)
      have hcN : (c : Int) < (N : Int) := by omega
      have haN : (m : Int) < (N : Int) := by omega
      obtain ⟨xq, hyq⟩ : ∃ xq, X.getD q 0 = xq := ⟨_, rfl⟩
      have hql : q < X.length := by rw [HL.out.2]; omega
      have hmem : xq ∈ X := by rw [← hyq, List.getD_eq_getElem?_getD, List.getElem?_eq_getElem hql]; exact List.getElem_mem hql
      have hxq := HXY.out xq hmem
      have hxn := HXN.out xq hmem
      have hsplit : X = X.take q ++ xq :: X.drop (q + 1) := by
        have : xq = X[q] := by rw [← hyq, List.getD_eq_getElem?_getD, List.getElem?_eq_getElem hql]; rfl
        rw [this, List.getElem_cons_drop, List.take_append_drop]
      have hRr := HR0.out.keep HK.out
      have c1 : wr.cell? ⟨blk, c * 2, none⟩ = some (.int .i64 (enc xq).1) := hRr.cell0 (A := P ++ X.take q) (x := xq) (B := X.drop (q + 1) ++ ([y] ++ S)) (by rw [List.append_assoc, ← List.cons_append, ← List.append_assoc (X.take q), ← hsplit]) (by simp [HL.out.1]; omega)
      have c1b : wr.cell? ⟨blk, c * 2 + 1, none⟩ = some (enc xq).2 := hRr.cell1 (A := P ++ X.take q) (x := xq) (B := X.drop (q + 1) ++ ([y] ++ S)) (by rw [List.append_assoc, ← List.cons_append, ← List.append_assoc (X.take q), ← hsplit]) (by simp [HL.out.1]; omega)
      have c2 : wr.cell? ⟨blk, m * 2, none⟩ = some (.int .i64 (enc y).1) := hRr.cell0 (A := P ++ X) (x := y) (B := S) (by simp) (by simp [HL.out.1, HL.out.2]; omega)
      have c2b : wr.cell? ⟨blk, m * 2 + 1, none⟩ = some (enc y).2 := hRr.cell1 (A := P ++ X) (x := y) (B := S) (by simp) (by simp [HL.out.1, HL.out.2]; omega)
      obtain ⟨eu, heu⟩ : ∃ x_, (enc y).1 = x_ := ⟨_, rfl⟩
      obtain ⟨au, nu, cu, hfu⟩ := henc y
      have hvu : Value.agg #[.int .i64 eu, .slice au nu cu] = valP enc y := by unfold valP; rw [heu, hfu]
      obtain ⟨ev, hev⟩ : ∃ x_, (enc xq).1 = x_ := ⟨_, rfl⟩
      obtain ⟨av, nv, cv, hfv⟩ := henc xq
      have hvv : Value.agg #[.int .i64 ev, .slice av nv cv] = valP enc xq := by unfold valP; rw [hev, hfv]
      rw [heu] at c2
      rw [hfu] at c2b
      rw [hev] at c1
      rw [hfv] at c1b
      have CE : Hid (∀ w', R.Keeps [] wr w' → w'.cell? ⟨blk, m * 2, none⟩ = some (.int .i64 eu) ∧ w'.cell? ⟨blk, m * 2 + 1, none⟩ = some (.slice au nu cu) ∧ w'.cell? ⟨blk, c * 2, none⟩ = some (.int .i64 ev) ∧ w'.cell? ⟨blk, c * 2 + 1, none⟩ = some (.slice av nv cv)) := Lib.hid (fun w' hw => ⟨hw.cell c2 (by simp), hw.cell c2b (by simp), hw.cell c1 (by simp), hw.cell c1b (by simp)⟩)
      have HKW := Lib.hid (HK0.out.trans HK.out (fun k hk => by simp at hk))
      have HQ := Lib.hid hyq
      have HEN := Lib.hid (And.intro (And.intro heu hfu) (And.intro (And.intro hev hfv) (And.intro hvu hvv)))
      clear hvu hvv
      clear hsplit hmem hyq c1 c1b c2 c2b hRr hql
      go_wp2_with fail
      apply R.wp_region_text [0, 1, 2, 3, 4, 5, 6, 7, 8] [9, 10, 11] 12 (R.Keeps [] wr)
      case hm => kernel_rfl
      case hB => kernel_rfl
      case hd => rfl
      case hQ => exact fun _ _ _ _ _ h => h
      case hS => exact (R.Keeps.refl _ _).drew
      case hF =>
        intro w' hS
        obtain ⟨y0, y0b, y1, y1b⟩ := CE.out w' hS
        clear hS
        simp only [R.pickC, List.filterMap_cons, List.getElem?_toArray, List.getElem?_cons_zero, List.getElem?_cons_succ, List.filterMap_nil]
        (with_reducible refine R.wpStill_plain rfl (fun K hK => ?_)); go_simp; with_reducible refine hK _ ?_; clear hK K
        (with_reducible refine R.wpStill_plain rfl (fun K hK => ?_)); go_simp; with_reducible refine hK _ ?_; clear hK K
        (with_reducible refine R.wpStill_plain rfl (fun K hK => ?_)); go_simp; with_reducible refine hK _ ?_; clear hK K
        (with_reducible refine R.wpStill_plain rfl (fun K hK => ?_)); go_simp; with_reducible refine hK _ ?_; clear hK K
        (with_reducible refine R.wpStill_plain rfl (fun K hK => ?_)); go_simp; with_reducible refine hK _ ?_; clear hK K
        (with_reducible refine R.wpStill_plain rfl (fun K hK => ?_)); go_simp; with_reducible refine hK _ ?_; clear hK K
        (with_reducible refine R.wpStill_plain rfl (fun K hK => ?_)); go_simp; with_reducible refine hK _ ?_; clear hK K
        (with_reducible refine R.wpStill_plain rfl (fun K hK => ?_)); go_simp; with_reducible refine hK _ ?_; clear hK K
        (with_reducible refine R.wpStill_plain rfl (fun K hK => ?_)); go_simp; with_reducible refine hK _ ?_; clear hK K
        exact wpStill_nil rfl
      case hC =>
        simp only [R.chainOf, List.getElem?_toArray, List.getElem?_cons_zero, List.getElem?_cons_succ, Nat.reduceBNe, Bool.and_true, Bool.and_false, Bool.false_and]
        refine R.wpSeq_same (fun K hK => ?_)
        go_simp
        rw [HEN.out.2.2.1, HEN.out.2.2.2]
        refine (HC.out _ HKW.out.drew y xq hy hxn).mono ?_
        rintro e w2 ⟨cr, rfl, hcr, hB2⟩
        have hK2 : R.Keeps [] wr w2 := ((R.Keeps.refl [] _).drew).trans (R.Keeps.of_below [] hB2) (fun k hk => by simp at hk)
        refine hK _ _ hK2 ?_
        clear hK K
        have HK2 := Lib.hid hK2
        clear hB2 hK2
        by_cases hneg : cr < 0
        · have HNEG : Hid (lx key y xq) := Lib.hid (.inl (hcr.1 hneg))
          clear hcr
          refine R.wpSeq_same (fun K hK => ?_)
          go_simp
          with_reducible refine hK _ _ HK2.out ?_
          clear hK K
          refine R.wpSeq_same (fun K hK => ?_)
          go_simp
          with_reducible refine hK _ _ HK2.out ?_
          clear hK K
          refine R.wpSeq_nil ?_
          go_wp2_with fail
          refine ⟨⟨i, q, by go_num, by go_num, by omega, by omega, HI, Lib.hid (.inr (by rw [HQ.out]; exact HNEG.out)), Lib.hid (HK.out.trans HK2.out (fun k hk _ => hk))⟩, by simp [intOf]; omega⟩
        · have HNEG : Hid (lx key xq y) := Lib.hid (lx.not (fun hh => hneg (hcr.2 ((lx_right hxq).1 hh))) (by omega))
          have hnn : decide (cr < 0) = false := decide_eq_false hneg
          clear hcr
          refine R.wpSeq_same (fun K hK => ?_)
          go_simp
          with_reducible refine hK _ _ HK2.out ?_
          clear hK K
          refine R.wpSeq_same (fun K hK => ?_)
          go_simp
          with_reducible refine hK _ _ HK2.out ?_
          clear hK K
          refine R.wpSeq_nil ?_
          go_wp2_with fail
          refine ⟨⟨q + 1, j, by go_num, by go_num, by omega, hjl, Lib.hid (.inr (by rw [Nat.add_sub_cancel, HQ.out]; exact HNEG.out)), HJ, Lib.hid (HK.out.trans HK2.out (fun k hk _ => hk))⟩, by simp [intOf]; omega⟩
    · obtain rfl : i = j := by omega
      obtain ⟨i1, hi1⟩ : ∃ i1, a + i = i1 := ⟨_, rfl⟩
      rw [hi1]
      have hil : i ≤ X.length := by rw [HL.out.2]; omega
      have hti : (X.drop i).length = l - i := by simp [HL.out.2]
      have HTI := Lib.hid hti
      have HR1 : Hid (RowS enc tail blk (P ++ (X.take i ++ (X.drop i ++ (y :: ([] ++ S))))) wr) := Lib.hid (by have := HR0.out.keep HK.out; rw [← List.append_assoc (X.take i), List.take_append_drop]; exact this)
      clear hti
      go_wp2_with fail
      go_loopw [17] (fun v17 wq => ∃ (A B : List Nat), v17 = .int .i64 ((i1 + A.length : Nat) : Int) ∧ A.length ≤ l - i ∧ Hid (X.drop i = A ++ B) ∧ Hid (RowS enc tail blk (P ++ (X.take i ++ (A ++ (y :: (B ++ S))))) wq) ∧ Hid (R.Keeps [blk] w wq)) (fun v17 _ => (intOf v17).toNat)
      case atStart => exact ⟨X.drop i, [], by rw [HTI.out]; congr 1; omega, by rw [HTI.out]; exact Nat.le_refl _, Lib.hid (by simp), HR1, Lib.hid (HK.out.mono (fun k hk => by simp at hk))⟩
      case round =>
        rename World => wq
        obtain ⟨A, B, rfl, hAi, HAB, HRq, HKq⟩ := hrel
        obtain ⟨k, hk⟩ : ∃ k, i1 + A.length = k := ⟨_, rfl⟩
        rw [hk]
        by_cases hlt2 : i1 < k
        · obtain ⟨A', z, rfl⟩ : ∃ A' z, A = A' ++ [z] := by
            have hne : A ≠ [] := by intro e; rw [e] at hk; simp at hk; omega
            exact ⟨A.dropLast, A.getLast hne, (List.dropLast_concat_getLast hne).symm⟩
          have hlt2' : (i1 : Int) < (k : Int) := by omega
          obtain ⟨k1, hk1⟩ : ∃ k1, k1 + 1 = k := ⟨k - 1, by omega⟩
          have hkk : (k : Int) - 1 = (k1 : Int) := by omega
          have wk := wr_small (x := k1) (by omega)
          have b1 : (k : Int) < (N : Int) := by omega
          have b2 : (k1 : Int) < (N : Int) := by omega
          have hAl : A'.length + 1 = k - i1 := by simp at hk; omega
          have hsp : P ++ (X.take i ++ ((A' ++ [z]) ++ (y :: (B ++ S)))) = (P ++ (X.take i ++ A')) ++ z :: ([] ++ y :: (B ++ S)) := by simp
          have ha : k1 = (P ++ (X.take i ++ A')).length := by simp [HL.out.1]; omega
          have hb : k = (P ++ (X.take i ++ A')).length + 1 + ([] : List Nat).length := by rw [← ha]; simp; omega
          have c1 : wq.cell? ⟨blk, k1 * 2, none⟩ = some (.int .i64 (enc z).1) := HRq.out.cell0 hsp ha
          have c1b : wq.cell? ⟨blk, k1 * 2 + 1, none⟩ = some (enc z).2 := HRq.out.cell1 hsp ha
          have c2 : wq.cell? ⟨blk, k * 2, none⟩ = some (.int .i64 (enc y).1) := HRq.out.cell0 (A := (P ++ (X.take i ++ A')) ++ [z]) (x := y) (B := B ++ S) (by simp) (by rw [hb]; simp; omega)
          have c2b : wq.cell? ⟨blk, k * 2 + 1, none⟩ = some (enc y).2 := HRq.out.cell1 (A := (P ++ (X.take i ++ A')) ++ [z]) (x := y) (B := B ++ S) (by simp) (by rw [hb]; simp; omega)
          have f1 := HRq.out.frozen (k * 2)
          have f1b := HRq.out.frozen (k * 2 + 1)
          have f2 := HRq.out.frozen (k1 * 2)
          have f2b := HRq.out.frozen (k1 * 2 + 1)
          obtain ⟨eu, heu⟩ : ∃ x_, (enc z).1 = x_ := ⟨_, rfl⟩
          obtain ⟨au, nu, cu, hfu⟩ := henc z
          have hvu : Value.agg #[.int .i64 eu, .slice au nu cu] = valP enc z := by unfold valP; rw [heu, hfu]
          obtain ⟨ev, hev⟩ : ∃ x_, (enc y).1 = x_ := ⟨_, rfl⟩
          obtain ⟨av, nv, cv, hfv⟩ := henc y
          have hvv : Value.agg #[.int .i64 ev, .slice av nv cv] = valP enc y := by unfold valP; rw [hev, hfv]
          rw [heu] at c1
          rw [hfu] at c1b
          rw [hev] at c2
          rw [hfv] at c2b
          have HEN := Lib.hid (And.intro (And.intro heu hfu) (And.intro (And.intro hev hfv) (And.intro hvu hvv)))
          clear hvu hvv
          have HSP := Lib.hid (And.intro hsp (And.intro ha hb))
          have HKA := Lib.hid hk
          have hcomm : ∀ (w : World), (((w.setCell ⟨blk, k * 2, none⟩ (.int .i64 eu)).setCell ⟨blk, k * 2 + 1, none⟩ (.slice au nu cu)).setCell ⟨blk, k1 * 2, none⟩ (.int .i64 ev)).setCell ⟨blk, k1 * 2 + 1, none⟩ (.slice av nv cv) = (((w.setCell ⟨blk, k1 * 2, none⟩ (.int .i64 ev)).setCell ⟨blk, k1 * 2 + 1, none⟩ (.slice av nv cv)).setCell ⟨blk, k * 2, none⟩ (.int .i64 eu)).setCell ⟨blk, k * 2 + 1, none⟩ (.slice au nu cu) := fun w => set4_comm w (by omega)
          have HCM := Lib.hid hcomm
          clear heu hfu hev hfv ha hb hsp hk hcomm
          go_wp2_with fail
          go_big_region_o
          all_goals go_wp2_with fail
          all_goals
            refine ⟨⟨A', z :: B, by have := HKA.out; simp only [List.length_append, List.length_cons, List.length_nil] at this; rw [show k1 = i1 + A'.length by omega], by simp only [List.length_append, List.length_cons, List.length_nil] at hAi; omega, Lib.hid (by rw [HAB.out]; simp), ?_, Lib.hid ((((((HKq.out).setCell (by simp) _).setCell (by simp) _).setCell (by simp) _).setCell (by simp) _).drew)⟩, by simp [intOf]; omega⟩
            have h5 := HRq.out.swap HSP.out.1 HSP.out.2.1 HSP.out.2.2
            rw [HEN.out.1.1, HEN.out.1.2, HEN.out.2.1.1, HEN.out.2.1.2, ← HCM.out] at h5
            exact Lib.hid (by simpa using h5.keep ((R.Keeps.refl [] _).drew))
        · have hlt2' : ¬ (i1 : Int) < (k : Int) := by omega
          go_wp2_with fail
          go_end0
          have hA : A = [] := List.eq_nil_of_length_eq_zero (by omega)
          subst hA
          have hB : B = X.drop i := by have := HAB.out; simpa using this.symm
          subst hB
          have hXs := HX.out
          rw [← List.take_append_drop i X] at hXs
          refine ⟨rfl, X.take i ++ y :: X.drop i, ?_, ?_, HKq.out, by simpa using HRq.out⟩
          · refine List.perm_middle.trans ?_
            rw [List.take_append_drop]
            exact (List.perm_append_comm (l₁ := [y]) (l₂ := X))
          · refine put_in hXs ?_ ?_
            · rcases HI.out with h1 | h1
              · left; rw [h1]; rfl
              · by_cases h0 : i = 0
                · left; rw [h0]; rfl
                · right
                  have hl : (X.take i).length = i := by simp; omega
                  rw [hl]
                  have : (X.take i).getD (i - 1) 0 = X.getD (i - 1) 0 := by simp [List.getD_eq_getElem?_getD, List.getElem?_take, show i - 1 < i by omega]
                  rw [this]; exact h1
            · rcases HJ.out with h1 | h1
              · left; rw [h1]; exact List.drop_eq_nil_of_le (by rw [HL.out.2]; exact Nat.le_refl _)
              · right
                have : (X.drop i).getD 0 0 = X.getD i 0 := by simp [List.getD_eq_getElem?_getD]
                rw [this]; exact h1
end Go.Proofs.Ytcpojohpmcnnhaa.AP
