/- For all bookings the statement RoomsAssigns holds: Go's function returns true and changes nothing that existed. -/
import Derived.Test.YtpjobcnfjpbaeaaZj5
set_option linter.unusedSimpArgs false
set_option linter.unusedVariables false

namespace Go.Proofs.Ytpjobcnfjpbaeaa.A
open Go.RowKit Go.Proofs.YtpjobcnfjpbaeaaW.PrintWords Go.Proofs.YtpjobcnfjpbaeaaW.PrintLast Go.Proofs.YtpjobcnfjpbaeaaW.PrintMore
open Go.Proofs.Ytpjobcnfjpbaeaa.PA
theorem symMerge_c {key : Nat → Int} {enc : Nat → Value} (henc : ∀ x, ∃ v, enc x = .int .i64 v) {tail : List Value} {blk cap n g : Nat} {cb : Array Value} {w0 : World} (eg : Enters g) (hC : CmpS key enc n blk g cb w0) (N : Nat) (hn : N < 1000000) : ∀ K, MergeAt key enc tail blk cap n g cb w0 N K := by
  intro K
  induction K with
  | zero => intro P X Y S L a m b w _ hK _ _ _ _ _ _ h1 _; omega
  | succ K ih =>
  intro P X Y S L a m b w hL hK hK0 h hN ha hm hb hX0 hY0 hX hY hxy hxn hyn
  subst hL
  by_cases hx1 : X.length = 1
  · obtain ⟨x, rfl⟩ := List.length_eq_one_iff.1 hx1
    subst ha hm hb
    exact merge1_c henc eg hC P x Y S N w hK0 h hN hn hY0 hY (hxy x (by simp)) (hxn x (by simp)) hyn
  by_cases hy1 : Y.length = 1
  · obtain ⟨y, rfl⟩ := List.length_eq_one_iff.1 hy1
    subst ha hm hb
    exact merge2_c henc eg hC P X y S N w hK0 h hN hn (by omega) hX (fun x hx => hxy x hx y (by simp)) hxn (hyn y (by simp))
  by_cases hs : (P.length + (P.length + X.length + Y.length)) / 2 < P.length + X.length
  · exact symMerge_gt henc eg hC N hn K ih P X Y S a m b w hK hK0 h hN ha hm hb hX0 hY0 hX hY hxy hxn hyn hx1 hy1 hs
  · exact symMerge_le henc eg hC N hn K ih P X Y S a m b w hK hK0 h hN ha hm hb hX0 hY0 hX hY hxy hxn hyn hx1 hy1 hs
end Go.Proofs.Ytpjobcnfjpbaeaa.A

namespace Go.Proofs.Ytpjobcnfjpbaeaa.A
open Go.RowKit Go.Proofs.YtpjobcnfjpbaeaaW.PrintWords Go.Proofs.YtpjobcnfjpbaeaaW.PrintLast Go.Proofs.YtpjobcnfjpbaeaaW.PrintMore
open Go.Proofs.Ytpjobcnfjpbaeaa.PA
set_option maxHeartbeats 8000000 in
set_option maxRecDepth 100000 in
theorem insert_none (N cap blk : Nat) (f : Value) (a : Nat) (w : World) (ha : a < 1000000) :
    Calls Try.prog 79 #[.slice (some ⟨blk, 0, none⟩) N cap, .int .i64 (a : Int), .int .i64 (a : Int), f] w fun e w' => e = .returned (.tuple #[]) ∧ w' = w := by
  have wa := wr_small (x := a + 1) (by omega)
  have h1 : ¬ ((a : Int) + 1 < (a : Int)) := by omega
  go_enter Try.func79, Try.ntmps79
  go_wp2_with fail
  refine wp_loop_rounds 1 ?_
  rw [rounds_succ]
  go_wp2_with fail
  go_end0
  exact ⟨rfl, rfl⟩
set_option maxHeartbeats 8000000 in
set_option maxRecDepth 100000 in
theorem insert_c {key : Nat → Int} {enc : Nat → Value} (henc : ∀ x, ∃ v, enc x = .int .i64 v) {tail : List Value} {blk cap n g : Nat} {cb : Array Value} {w0 : World} (eg : Enters g) (hC : CmpS key enc n blk g cb w0)
    (P X S : List Nat) (N : Nat) (w : World) (hK0 : R.Keeps [blk] w0 w) (h : RowS enc 3 tail blk (P ++ (X ++ S)) w) (hN : (P ++ (X ++ S)).length = N) (hn : N < 1000000)
    (hX0 : 0 < X.length) (hX : X.Pairwise (· < ·)) (hxn : ∀ x, x ∈ X → x < n) :
    Calls Try.prog 79 #[.slice (some ⟨blk, 0, none⟩) N cap, .int .i64 (P.length : Int), .int .i64 ((P.length + X.length : Nat) : Int), .func (.func g) #[] cb] w (Merged key enc tail blk P X [] S w) := by
  unfold Enters at eg
  have mixed : Try.prog.follows Departure.mixedOrders = true := by kernel_rfl
  have hNs : P.length + X.length + S.length = N := by rw [← hN]; simp; omega
  have HR0 := Lib.hid h
  have HC := Lib.hid hC
  have HK0 := Lib.hid hK0
  have HX := Lib.hid hX
  have HXN := Lib.hid hxn
  obtain ⟨a, ha⟩ : ∃ a, P.length = a := ⟨_, rfl⟩
  obtain ⟨l, hl⟩ : ∃ l, X.length = l := ⟨_, rfl⟩
  rw [ha, hl] at hNs
  rw [hl] at hX0
  rw [ha, hl]
  have HL := Lib.hid (And.intro ha hl)
  clear h hC hK0 hX hxn hN ha hl
  obtain ⟨b, hb⟩ : ∃ b, a + l = b := ⟨_, rfl⟩
  obtain ⟨a1, ha1⟩ : ∃ a1, a + 1 = a1 := ⟨_, rfl⟩
  rw [hb]
  have e1 : (a : Int) + 1 = (a1 : Int) := by omega
  have wa := wr_small (x := a1) (by omega)
  go_enter Try.func79, Try.ntmps79
  go_wp2_with fail
  go_loopw [8] (fun v8 wr => ∃ (A B A' : List Nat), v8 = .int .i64 ((a + A.length : Nat) : Int) ∧ 0 < A.length ∧ A.length + B.length = l ∧ Hid (X = A ++ B ∧ A'.Perm A ∧ Srt key A') ∧ Hid (RowS enc 3 tail blk (P ++ (A' ++ (B ++ S))) wr) ∧ Hid (R.Keeps [blk] w wr)) (fun v8 _ => b - (intOf v8).toNat)
  case atStart =>
    obtain ⟨x, X', hx⟩ : ∃ x X', X = x :: X' := by
      cases X with
      | nil => have := HL.out.2; simp at this; omega
      | cons x X' => exact ⟨x, X', rfl⟩
    exact ⟨[x], X', [x], by rw [← ha1]; rfl, by simp, by have := HL.out.2; rw [hx] at this; simp at this ⊢; omega, Lib.hid ⟨hx, List.Perm.refl _, List.pairwise_singleton _ _⟩, Lib.hid (by have := HR0.out; rw [hx] at this; exact this), Lib.hid (R.Keeps.refl _ _)⟩
  case round =>
    rename World => wr
    obtain ⟨A, B, A', rfl, hA0, hAB, HD, HR, HK⟩ := hrel
    obtain ⟨i, hi⟩ : ∃ i, a + A.length = i := ⟨_, rfl⟩
    rw [hi]
    by_cases hlt : i < b
    · have hlt' : (i : Int) < (b : Int) := by omega
      obtain ⟨x, B', rfl⟩ : ∃ x B', B = x :: B' := by
        cases B with
        | nil => simp at hAB; omega
        | cons x B' => exact ⟨x, B', rfl⟩
      have hlx : ∀ y, y ∈ A' → y < x := fun y hy => by
        have h1 := HX.out
        rw [HD.out.1] at h1
        exact (List.pairwise_append.1 h1).2.2 y (HD.out.2.1.subset hy) x (by simp)
      have hxx : x < n := HXN.out x (by rw [HD.out.1]; simp)
      have HLX := Lib.hid hlx
      clear hlx
      go_wp2_with fail
      go_loopw [9] (fun v9 wq => ∃ (C D : List Nat), v9 = .int .i64 ((a + C.length : Nat) : Int) ∧ C.length + D.length = A.length ∧ Hid (A' = C ++ D ∧ (D = [] ∨ lx key x (D.getD 0 0))) ∧ Hid (RowS enc 3 tail blk (P ++ (C ++ (x :: (D ++ (B' ++ S))))) wq) ∧ Hid (R.Keeps [blk] w wq)) (fun v9 _ => (intOf v9).toNat)
      case atStart => exact ⟨A', [], by rw [HD.out.2.1.length_eq, hi], by rw [HD.out.2.1.length_eq]; rfl, Lib.hid ⟨by simp, .inl rfl⟩, HR, HK⟩
      case round =>
        rename World => wq
        obtain ⟨C, D, rfl, hCD, HE, HRq, HKq⟩ := hrel
        have OUT : C = [] ∨ lx key (C.getD (C.length - 1) 0) x → Hid ((C ++ x :: D).Perm (A ++ [x]) ∧ Srt key (C ++ x :: D)) := fun hc => by
          refine Lib.hid ⟨?_, ?_⟩
          · refine List.perm_middle.trans ?_
            rw [← HE.out.1]
            exact ((List.perm_cons x).2 HD.out.2.1).trans (List.perm_append_comm (l₁ := [x]) (l₂ := A))
          · have h1 := HD.out.2.2
            rw [HE.out.1] at h1
            exact put_in h1 hc HE.out.2
        have OUTH := Lib.hid OUT
        clear OUT
        by_cases hc0 : C = []
        · subst hc0
          obtain ⟨j, hj⟩ : ∃ j, a + ([] : List Nat).length = j := ⟨_, rfl⟩
          rw [hj]
          have j1 : ¬ ((a : Int) < (j : Int)) := by rw [← hj]; simp
          have j2 : decide ((a : Int) < (j : Int)) = false := decide_eq_false j1
          have j3 : decide ((j : Int) > (a : Int)) = false := decide_eq_false j1
          have HD4 : Hid (decide (a < j) = false) := Lib.hid (decide_eq_false (by rw [← hj]; simp))
          have HO := OUTH.out (.inl rfl)
          obtain ⟨i2, hi2⟩ : ∃ i2, i + 1 = i2 := ⟨_, rfl⟩
          have e5 : (i : Int) + 1 = (i2 : Int) := by omega
          have w5 := wr_small (x := i2) (by omega)
          have HOH := Lib.hid HO
          clear HO hj
          go_wp2_with fail
          apply R.wp_region_text [0, 1, 2, 3, 4, 5, 6, 7, 8, 9, 10, 11, 12, 13] [14, 15, 16] 17 (R.Keeps [] wq)
          case hm => kernel_rfl
          case hB => kernel_rfl
          case hd => rfl
          case hQ => exact fun _ _ _ _ _ h => h
          case hS => exact (R.Keeps.refl _ _).drew
          case hF =>
            intro w' hS
            clear hS
            simp only [R.pickC, List.filterMap_cons, List.getElem?_toArray, List.getElem?_cons_zero, List.getElem?_cons_succ, List.filterMap_nil]
            (with_reducible refine R.wpStill_plain rfl (fun K hK => ?_)); go_simp; with_reducible refine hK _ ?_; clear hK K
            (with_reducible refine R.wpStill_plain rfl (fun K hK => ?_)); go_simp; with_reducible refine hK _ ?_; clear hK K
            (with_reducible refine R.wpStill_plain rfl (fun K hK => ?_)); go_simp; with_reducible refine hK _ ?_; clear hK K
            (with_reducible refine R.wpStill_plain rfl (fun K hK => ?_)); go_simp; with_reducible refine hK _ ?_; clear hK K
            refine R.wpStill_no rfl (by exact rfl) (by rw [HD4.out]; rfl) ?_; simp only [Act.put, List.setIfInBounds_toArray, List.set_cons_zero, List.set_cons_succ]
            refine R.wpStill_no rfl (by exact rfl) (by rw [HD4.out]; rfl) ?_; simp only [Act.put, List.setIfInBounds_toArray, List.set_cons_zero, List.set_cons_succ]
            refine R.wpStill_no rfl (by exact rfl) (by rw [HD4.out]; rfl) ?_; simp only [Act.put, List.setIfInBounds_toArray, List.set_cons_zero, List.set_cons_succ]
            refine R.wpStill_no rfl (by exact rfl) (by rw [HD4.out]; rfl) ?_; simp only [Act.put, List.setIfInBounds_toArray, List.set_cons_zero, List.set_cons_succ]
            refine R.wpStill_no rfl (by exact rfl) (by rw [HD4.out]; rfl) ?_; simp only [Act.put, List.setIfInBounds_toArray, List.set_cons_zero, List.set_cons_succ]
            refine R.wpStill_no rfl (by exact rfl) (by rw [HD4.out]; rfl) ?_; simp only [Act.put, List.setIfInBounds_toArray, List.set_cons_zero, List.set_cons_succ]
            refine R.wpStill_no rfl (by exact rfl) (by rw [HD4.out]; rfl) ?_; simp only [Act.put, List.setIfInBounds_toArray, List.set_cons_zero, List.set_cons_succ]
            refine R.wpStill_no rfl (by exact rfl) (by rw [HD4.out]; rfl) ?_; simp only [Act.put, List.setIfInBounds_toArray, List.set_cons_zero, List.set_cons_succ]
            refine R.wpStill_no rfl (by exact rfl) (by rw [HD4.out]; rfl) ?_; simp only [Act.put, List.setIfInBounds_toArray, List.set_cons_zero, List.set_cons_succ]
            refine R.wpStill_no rfl (by exact rfl) (by rw [HD4.out]; rfl) ?_; simp only [Act.put, List.setIfInBounds_toArray, List.set_cons_zero, List.set_cons_succ]
            exact wpStill_nil rfl
          case hC =>
            simp only [R.chainOf, List.getElem?_toArray, List.getElem?_cons_zero, List.getElem?_cons_succ, Nat.reduceBNe, Bool.and_true, Bool.and_false, Bool.false_and]
            rw [HD4.out]
            refine R.wpSeq_same (fun K hK => ?_)
            rw [if_neg (by exact Bool.false_ne_true)]
            refine hK _ _ ((R.Keeps.refl _ _).drew) ?_
            clear hK K
            simp only [Act.put, List.setIfInBounds_toArray, List.set_cons_zero, List.set_cons_succ]
            refine R.wpSeq_same (fun K hK => ?_)
            rw [if_neg (by exact Bool.false_ne_true)]
            refine hK _ _ ((R.Keeps.refl _ _).drew) ?_
            clear hK K
            simp only [Act.put, List.setIfInBounds_toArray, List.set_cons_zero, List.set_cons_succ]
            refine R.wpSeq_same (fun K hK => ?_)
            go_simp
            with_reducible refine hK _ _ ((R.Keeps.refl _ _).drew) ?_
            clear hK K
            refine R.wpSeq_nil ?_
            go_wp2_with fail
            refine ⟨⟨A ++ [x], B', [] ++ x :: D, by simp; omega, by simp, by simp at hAB ⊢; omega, Lib.hid ⟨by rw [HD.out.1]; simp, HOH.out.out.1, HOH.out.out.2⟩, Lib.hid (by have := HRq.out.keep (R.Keeps.refl [] _).drew; simpa using this), Lib.hid HKq.out.drew⟩, by simp [intOf]; omega⟩
        · obtain ⟨C', c, rfl⟩ : ∃ C' c, C = C' ++ [c] := ⟨C.dropLast, C.getLast hc0, (List.dropLast_concat_getLast hc0).symm⟩
          obtain ⟨j, hj⟩ : ∃ j, a + (C' ++ [c]).length = j := ⟨_, rfl⟩
          rw [hj]
          have hjc : a + C'.length + 1 = j := by rw [← hj]; simp; omega
          obtain ⟨jp, hjp⟩ : ∃ jp, jp + 1 = j := ⟨j - 1, by omega⟩
          have j1 : (a : Int) < (j : Int) := by omega
          have j2 : decide ((a : Int) < (j : Int)) = true := decide_eq_true j1
          have e6 : (j : Int) - 1 = (jp : Int) := by omega
          have w6 := wr_small (x := jp) (by omega)
          have hCl : (C' ++ [c]).length = C'.length + 1 := by simp
          rw [hCl] at hCD
          have b1 : (j : Int) < (N : Int) := by simp at hAB; omega
          have b2 : (jp : Int) < (N : Int) := by omega
          have hsp : P ++ ((C' ++ [c]) ++ (x :: (D ++ (B' ++ S)))) = (P ++ C') ++ c :: ([] ++ x :: (D ++ (B' ++ S))) := by simp
          have hpa : jp = (P ++ C').length := by simp [HL.out.1]; omega
          have hpb : j = (P ++ C').length + 1 + ([] : List Nat).length := by rw [← hpa]; simp; omega
          have c1 : wq.cell? ⟨blk, jp, none⟩ = some (enc c) := HRq.out.cell hsp hpa
          have c2 : wq.cell? ⟨blk, j, none⟩ = some (enc x) := HRq.out.cell (A := (P ++ C') ++ [c]) (x := x) (B := D ++ (B' ++ S)) (by simp) (by rw [hpb]; simp; omega)
          have hcx : c < x := HLX.out c (by rw [HE.out.1]; simp)
          have hcn : c < n := by omega
          have hlast : (C' ++ [c]).getD ((C' ++ [c]).length - 1) 0 = c := by simp [List.getD_eq_getElem?_getD]
          have HLA := Lib.hid hlast
          obtain ⟨eu, heu⟩ := henc x
          obtain ⟨ev, hev⟩ := henc c
          rw [heu] at c2
          rw [hev] at c1
          have CE : Hid (∀ w', R.Keeps [] wq w' → w'.cell? ⟨blk, j, none⟩ = some (.int .i64 eu) ∧ w'.cell? ⟨blk, jp, none⟩ = some (.int .i64 ev)) := Lib.hid (fun w' hw => ⟨hw.cell c2 (by simp), hw.cell c1 (by simp)⟩)
          have HKW := Lib.hid (HK0.out.trans HKq.out (fun k hk _ => hk))
          have HEN := Lib.hid (And.intro heu hev)
          have HSP := Lib.hid (And.intro hsp (And.intro hpa hpb))
          have HJ := Lib.hid hjc
          obtain ⟨i2, hi2⟩ : ∃ i2, i + 1 = i2 := ⟨_, rfl⟩
          have e5 : (i : Int) + 1 = (i2 : Int) := by omega
          have w5 := wr_small (x := i2) (by omega)
          clear hj hsp hpa hpb heu hev c1 c2 hlast hCl
          go_wp2_with fail
          apply R.wp_region_text [0, 1, 2, 3, 4, 5, 6, 7, 8, 9, 10, 11, 12, 13] [14, 15, 16] 17 (R.Keeps [] wq)
          case hm => kernel_rfl
          case hB => kernel_rfl
          case hd => rfl
          case hQ => exact fun _ _ _ _ _ h => h
          case hS => exact (R.Keeps.refl _ _).drew
          case hF =>
            intro w' hS
            obtain ⟨y0, y1⟩ := CE.out w' hS
            clear hS
            simp only [R.pickC, List.filterMap_cons, List.getElem?_toArray, List.getElem?_cons_zero, List.getElem?_cons_succ, List.filterMap_nil]
            (with_reducible refine R.wpStill_plain rfl (fun K hK => ?_)); go_simp; with_reducible refine hK _ ?_; clear hK K
            (with_reducible refine R.wpStill_plain rfl (fun K hK => ?_)); go_simp; with_reducible refine hK _ ?_; clear hK K
            (with_reducible refine R.wpStill_plain rfl (fun K hK => ?_)); go_simp; with_reducible refine hK _ ?_; clear hK K
            (with_reducible refine R.wpStill_plain rfl (fun K hK => ?_)); go_simp; with_reducible refine hK _ ?_; clear hK K
            (refine R.wpStill_yes rfl (by exact rfl) (fun K hK => ?_)); go_simp; with_reducible refine hK _ ?_; clear hK K
            (refine R.wpStill_yes rfl (by exact rfl) (fun K hK => ?_)); go_simp; with_reducible refine hK _ ?_; clear hK K
            (refine R.wpStill_yes rfl (by exact rfl) (fun K hK => ?_)); go_simp; with_reducible refine hK _ ?_; clear hK K
            (refine R.wpStill_yes rfl (by exact rfl) (fun K hK => ?_)); go_simp; with_reducible refine hK _ ?_; clear hK K
            (refine R.wpStill_yes rfl (by exact rfl) (fun K hK => ?_)); go_simp; with_reducible refine hK _ ?_; clear hK K
            (refine R.wpStill_yes rfl (by exact rfl) (fun K hK => ?_)); go_simp; with_reducible refine hK _ ?_; clear hK K
            (refine R.wpStill_yes rfl (by exact rfl) (fun K hK => ?_)); go_simp; with_reducible refine hK _ ?_; clear hK K
            (refine R.wpStill_yes rfl (by exact rfl) (fun K hK => ?_)); go_simp; with_reducible refine hK _ ?_; clear hK K
            (refine R.wpStill_yes rfl (by exact rfl) (fun K hK => ?_)); go_simp; with_reducible refine hK _ ?_; clear hK K
            (refine R.wpStill_yes rfl (by exact rfl) (fun K hK => ?_)); go_simp; with_reducible refine hK _ ?_; clear hK K
            exact wpStill_nil rfl
          case hC =>
            simp only [R.chainOf, List.getElem?_toArray, List.getElem?_cons_zero, List.getElem?_cons_succ, Nat.reduceBNe, Bool.and_true, Bool.and_false, Bool.false_and]
            refine R.wpSeq_same (fun K hK => ?_)
            go_simp
            rw [← HEN.out.1, ← HEN.out.2]
            refine (HC.out _ HKW.out.drew x c hxx hcn).mono ?_
            rintro e w2 ⟨cr, rfl, hcr, hB2⟩
            have hK2 : R.Keeps [] wq w2 := ((R.Keeps.refl [] _).drew).trans (R.Keeps.of_below [] hB2) (fun k hk => by simp at hk)
            refine hK _ _ hK2 ?_
            clear hK K
            have HK2 := Lib.hid hK2
            clear hB2 hK2
            by_cases hneg : cr < 0
            · have HNEG : Hid (lx key x c) := Lib.hid (.inl (hcr.1 hneg))
              clear hcr
              refine R.wpSeq_same (fun K hK => ?_)
              go_simp
              with_reducible refine hK _ _ HK2.out ?_
              clear hK K
              refine R.wpSeq_same (fun K hK => ?_)
              go_simp
              with_reducible refine hK _ _ HK2.out ?_
              clear hK K
              refine R.wpSeq_nil ?_
              have HR2 := Lib.hid (HRq.out.keep HK2.out)
              obtain ⟨c2, c1⟩ := CE.out w2 HK2.out
              have f1 := HR2.out.frozen jp
              have f2 := HR2.out.frozen j
              go_wp2_with fail
              go_big_region_o
              all_goals go_wp2_with fail
              all_goals
                refine ⟨⟨C', c :: D, by congr 1; omega, by simp at hCD ⊢; omega, Lib.hid ⟨by rw [HE.out.1]; simp, .inr HNEG.out⟩, ?_, Lib.hid (((((HKq.out.trans HK2.out (fun k hk => by simp at hk))).setCell (by simp) _).setCell (by simp) _).drew)⟩, by simp [intOf]; omega⟩
                have h5 := HR2.out.swap HSP.out.1 HSP.out.2.1 HSP.out.2.2
                rw [HEN.out.1, HEN.out.2, setCell_comm _ (by omega)] at h5
                exact Lib.hid (by simpa using h5.keep ((R.Keeps.refl [] _).drew))
            · have HNEG : Hid (lx key c x) := Lib.hid (lx.not (fun hh => hneg (hcr.2 ((lx_right hcx).1 hh))) (by omega))
              have hnn' : decide (cr < 0) = false := decide_eq_false hneg
              clear hcr
              refine R.wpSeq_same (fun K hK => ?_)
              go_simp
              with_reducible refine hK _ _ HK2.out ?_
              clear hK K
              refine R.wpSeq_same (fun K hK => ?_)
              go_simp
              with_reducible refine hK _ _ HK2.out ?_
              clear hK K
              refine R.wpSeq_nil ?_
              go_wp2_with fail
              have HO := OUTH.out (.inr (by rw [HLA.out]; exact HNEG.out))
              refine ⟨⟨A ++ [x], B', (C' ++ [c]) ++ x :: D, by simp; omega, by simp, by simp at hAB ⊢; omega, Lib.hid ⟨by rw [HD.out.1]; simp, HO.out.1, HO.out.2⟩, Lib.hid (by have := HRq.out.keep HK2.out; simpa using this), Lib.hid (HKq.out.trans HK2.out (fun k hk => by simp at hk))⟩, by simp [intOf]; omega⟩
    · obtain rfl : i = b := by omega
      have hB : B = [] := List.eq_nil_of_length_eq_zero (by omega)
      subst hB
      have h1 : ¬ ((i : Int) < (i : Int)) := by omega
      go_wp2_with fail
      go_end0
      refine ⟨rfl, A', ?_, HD.out.2.2, HK.out, by simpa using HR.out⟩
      have := HD.out.1
      simp at this
      rw [this, List.append_nil]
      exact HD.out.2.1
end Go.Proofs.Ytpjobcnfjpbaeaa.A

namespace Go.Proofs.Ytpjobcnfjpbaeaa.A
open Go.RowKit Go.Proofs.YtpjobcnfjpbaeaaW.PrintWords Go.Proofs.YtpjobcnfjpbaeaaW.PrintLast Go.Proofs.YtpjobcnfjpbaeaaW.PrintMore
open Go.Proofs.Ytpjobcnfjpbaeaa.PA
inductive Full (key : Nat → Int) (bs : Nat) : List Nat → List Nat → Prop
  | nil : Full key bs [] []
  | cons {Z X D D0 : List Nat} : Z.Perm X → Srt key Z → X.length = bs → Full key bs D D0 → Full key bs (Z ++ D) (X ++ D0)
theorem Full.snoc {key : Nat → Int} {bs : Nat} {D D0 Z X : List Nat} (h : Full key bs D D0) (h1 : Z.Perm X) (h2 : Srt key Z) (h3 : X.length = bs) : Full key bs (D ++ Z) (D0 ++ X) := by
  induction h with
  | nil => have := Full.cons h1 h2 h3 Full.nil; simpa using this
  | cons a b c _ ih => rw [List.append_assoc, List.append_assoc]; exact Full.cons a b c ih
theorem Full.perm {key : Nat → Int} {bs : Nat} {D D0 : List Nat} (h : Full key bs D D0) : D.Perm D0 := by
  induction h with
  | nil => exact List.Perm.refl _
  | cons a _ _ _ ih => exact a.append ih
theorem Full.mult {key : Nat → Int} {bs : Nat} {D D0 : List Nat} (h : Full key bs D D0) : D = [] ∧ D0 = [] ∨ ∃ Z X D' D0', D = Z ++ D' ∧ D0 = X ++ D0' ∧ Z.Perm X ∧ Srt key Z ∧ X.length = bs ∧ Full key bs D' D0' := by
  cases h with
  | nil => exact .inl ⟨rfl, rfl⟩
  | cons a b c d => exact .inr ⟨_, _, _, _, rfl, rfl, a, b, c, d⟩
def Blk (key : Nat → Int) (bs : Nat) (L X : List Nat) : Prop := ∃ D D0 Z Y, L = D ++ Z ∧ X = D0 ++ Y ∧ Full key bs D D0 ∧ Z.Perm Y ∧ Srt key Z ∧ Y.length < bs
theorem Blk.done {key : Nat → Int} {bs : Nat} {L X : List Nat} (h : Blk key bs L X) (hl : X.length ≤ bs) : L.Perm X ∧ Srt key L := by
  obtain ⟨D, D0, Z, Y, rfl, rfl, hF, hp, hs, hy⟩ := h
  refine ⟨hF.perm.append hp, ?_⟩
  rcases hF.mult with ⟨rfl, rfl⟩ | ⟨Z', X', D', D0', rfl, rfl, h1, h2, h3, h4⟩
  · simpa using hs
  · simp at hl
    have e1 : D0' = [] := List.eq_nil_of_length_eq_zero (by omega)
    have e2 : Y = [] := List.eq_nil_of_length_eq_zero (by omega)
    subst e1 e2
    have e3 : D' = [] := List.Perm.eq_nil h4.perm
    have e4 : Z = [] := List.Perm.eq_nil hp
    subst e3 e4
    simpa using h2
set_option maxHeartbeats 8000000 in
set_option maxRecDepth 100000 in
theorem stable_c {key : Nat → Int} {enc : Nat → Value} (henc : ∀ x, ∃ v, enc x = .int .i64 v) {tail : List Value} {blk cap n g : Nat} {cb : Array Value} {w0 : World} (eg : Enters g) (hC : CmpS key enc n blk g cb w0)
    (X : List Nat) (N : Nat) (w : World) (hK0 : R.Keeps [blk] w0 w) (h : RowS enc 3 tail blk X w) (hN : X.length = N) (hn : N < 500000) (hX : X.Pairwise (· < ·)) (hxn : ∀ x, x ∈ X → x < n) :
    Calls Try.prog 69 #[.slice (some ⟨blk, 0, none⟩) N cap, .int .i64 (N : Int), .func (.func g) #[] cb] w fun e w' => e = .returned (.tuple #[]) ∧ ∃ Z, Z.Perm X ∧ Srt key Z ∧ R.Keeps [blk] w w' ∧ RowS enc 3 tail blk Z w' := by
  have e99 : ∀ args w, (callFunc 79 args).run Try.prog w = .ok (.enter 79 args) w := enters_mk Try.func79 (by kernel_rfl) rfl
  have e100 : ∀ args w, (callFunc 80 args).run Try.prog w = .ok (.enter 80 args) w := enters_mk Try.func80 (by kernel_rfl) rfl
  have HR0 := Lib.hid h
  have HC := Lib.hid hC
  have HK0 := Lib.hid hK0
  have HX := Lib.hid hX
  have HXN := Lib.hid hxn
  have HN := Lib.hid hN
  have EG := Lib.hid eg
  clear h hC hK0 hX hxn hN eg
  go_enter Try.func69, Try.ntmps69
  go_wp2_with fail
  go_loopw [7, 8] (fun v7 v8 wr => ∃ (D D0 R1 : List Nat), v7 = .int .i64 (D.length : Int) ∧ v8 = .int .i64 ((D.length + 20 : Nat) : Int) ∧ D.length + R1.length = N ∧ Hid (X = D0 ++ R1 ∧ Full key 20 D D0) ∧ Hid (RowS enc 3 tail blk (D ++ R1) wr) ∧ Hid (R.Keeps [blk] w wr)) (fun v7 _ _ => N - (intOf v7).toNat)
  case atStart => exact ⟨[], [], X, rfl, rfl, by simp [HN.out], Lib.hid ⟨rfl, Full.nil⟩, HR0, Lib.hid (R.Keeps.refl _ _)⟩
  case round =>
    rename World => wr
    obtain ⟨D, D0, R1, rfl, rfl, hDR, HD, HR, HK⟩ := hrel
    obtain ⟨a, ha⟩ : ∃ a, D.length = a := ⟨_, rfl⟩
    obtain ⟨b, hb⟩ : ∃ b, a + 20 = b := ⟨_, rfl⟩
    rw [ha] at hDR
    rw [ha, hb]
    have HA := Lib.hid ha
    clear ha
    have hlx : ∀ U V : List Nat, R1 = U ++ V → U.Pairwise (· < ·) ∧ ∀ x, x ∈ U → x < n := fun U V e => by
      have h1 := HX.out
      rw [HD.out.1, e] at h1
      refine ⟨(List.pairwise_append.1 (List.pairwise_append.1 h1).2.1).1, fun x hx => HXN.out x ?_⟩
      rw [HD.out.1, e]
      simp [hx]
    have HLX := Lib.hid hlx
    clear hlx
    by_cases hle : b ≤ N
    · have hle' : (b : Int) ≤ (N : Int) := by omega
      obtain ⟨U, V, hUV, hU⟩ : ∃ U V, R1 = U ++ V ∧ U.length = 20 := ⟨R1.take 20, R1.drop 20, (List.take_append_drop _ _).symm, by simp; omega⟩
      obtain ⟨b2, hb2⟩ : ∃ b2, b + 20 = b2 := ⟨_, rfl⟩
      have e2 : (b : Int) + 20 = (b2 : Int) := by omega
      have w2 := wr_small (x := b2) (by omega)
      have HUV := Lib.hid (And.intro hUV hU)
      clear hUV hU
      have hcall := insert_c henc EG.out HC.out (cap := cap) D U V N wr (HK0.out.trans HK.out (fun k hk _ => hk)) (by have := HR.out; rw [HUV.out.1] at this; exact this) (by have := HUV.out; have h2 := HA.out; rw [this.1] at hDR; simp at hDR ⊢; omega) (by omega) (by have := HUV.out.2; omega) (HLX.out U V HUV.out.1).1 (HLX.out U V HUV.out.1).2
      rw [HA.out, HUV.out.2, hb] at hcall
      have HCALL := Lib.hid hcall
      clear hcall
      go_wp2_with fail
      refine HCALL.out.mono ?_
      rintro e w4 ⟨rfl, Z, hz1, hz2, hz3, hz4⟩
      rw [List.append_nil] at hz1
      have HZ := Lib.hid (And.intro hz1 hz2)
      have HK4 := Lib.hid (HK.out.trans hz3 (fun k hk _ => hk))
      have HR4 := Lib.hid hz4
      clear hz1 hz2 hz3 hz4
      go_wp2_with fail
      have hzl : Z.length = 20 := by rw [HZ.out.1.length_eq]; exact HUV.out.2
      refine ⟨⟨D ++ Z, D0 ++ U, V, by rw [List.length_append, HA.out, hzl, hb], by rw [List.length_append, HA.out, hzl, hb]; congr 1; omega, by have h1 := HUV.out; rw [h1.1] at hDR; simp at hDR ⊢; have := HA.out; omega, Lib.hid ⟨by rw [HD.out.1, HUV.out.1, List.append_assoc], HD.out.2.snoc HZ.out.1 HZ.out.2 HUV.out.2⟩, Lib.hid (by rw [List.append_assoc]; exact HR4.out), HK4⟩, by simp [intOf]; omega⟩
    · have hle' : ¬ (b : Int) ≤ (N : Int) := by omega
      have hcall : Calls Try.prog 79 #[.slice (some ⟨blk, 0, none⟩) N cap, .int .i64 (a : Int), .int .i64 (N : Int), .func (.func g) #[] cb] wr fun e w' => e = .returned (.tuple #[]) ∧ ∃ Z, Z.Perm R1 ∧ Srt key Z ∧ R.Keeps [blk] wr w' ∧ RowS enc 3 tail blk (D ++ Z) w' := by
        by_cases h0 : R1 = []
        · have haN : a = N := by rw [h0] at hDR; simpa using hDR
          rw [haN]
          refine (insert_none N cap blk _ N wr (by omega)).mono ?_
          rintro e w' ⟨rfl, rfl⟩
          exact ⟨rfl, [], by rw [h0], Srt.nil, R.Keeps.refl _ _, by have := HR.out; rw [h0] at this; exact this⟩
        · have hl0 : 0 < R1.length := by
            rcases Nat.eq_zero_or_pos R1.length with h | h
            · exact absurd (List.eq_nil_of_length_eq_zero h) h0
            · exact h
          have := insert_c henc EG.out HC.out (cap := cap) D R1 [] N wr (HK0.out.trans HK.out (fun k hk _ => hk)) (by have := HR.out; simpa using this) (by have h2 := HA.out; simp; omega) (by omega) hl0 (HLX.out R1 [] (by simp)).1 (HLX.out R1 [] (by simp)).2
          rw [HA.out, hDR] at this
          refine this.mono ?_
          rintro e w' ⟨rfl, Z, hz1, hz2, hz3, hz4⟩
          rw [List.append_nil] at hz1 hz4
          exact ⟨rfl, Z, hz1, hz2, hz3, hz4⟩
      have HCALL := Lib.hid hcall
      clear hcall
      go_wp2_with fail
      refine HCALL.out.mono ?_
      rintro e w4 ⟨rfl, Z, hz1, hz2, hz3, hz4⟩
      have HB0 : Hid (Blk key 20 (D ++ Z) X) := Lib.hid ⟨D, D0, Z, R1, rfl, HD.out.1, HD.out.2, hz1, hz2, by omega⟩
      have HK4 := Lib.hid (HK.out.trans hz3 (fun k hk _ => hk))
      have HR4 := Lib.hid hz4
      clear hz1 hz2 hz3 hz4
      obtain ⟨L, hL⟩ : ∃ L, D ++ Z = L := ⟨_, rfl⟩
      rw [hL] at HB0 HR4
      clear hL HD HR HK HA HLX HCALL hDR hle hle'
      go_wp2_with fail
      go_loopw [6] (fun v6 wo => ∃ (bs : Nat) (L : List Nat), v6 = .int .i64 (bs : Int) ∧ 0 < bs ∧ bs < 1000000 ∧ Hid (Blk key bs L X) ∧ Hid (RowS enc 3 tail blk L wo) ∧ Hid (R.Keeps [blk] w wo)) (fun v6 _ => 1000000 - (intOf v6).toNat)
      case atStart => exact ⟨20, L, rfl, by omega, by omega, HB0, HR4, HK4⟩
      case round =>
        rename World => wo
        obtain ⟨bs, L, rfl, hb0, hbm, HB, HR, HK⟩ := hrel
        by_cases hlt : bs < N
        · have hlt' : (bs : Int) < (N : Int) := by omega
          obtain ⟨b2, hb2⟩ : ∃ b2, 2 * bs = b2 := ⟨_, rfl⟩
          have e2 : 2 * (bs : Int) = (b2 : Int) := by omega
          have e3 : (bs : Int) * 2 = (b2 : Int) := by omega
          have w2 := wr_small (x := b2) (by omega)
          have hbb := HB.out
          obtain ⟨D, D0, Z, Y, rfl, hXe, hF, hp, hs, hy⟩ := hbb
          have HXE := Lib.hid (And.intro hXe hF)
          have HZ := Lib.hid (And.intro hp hs)
          have hNY : D.length + Y.length = N := by
            have h1 := HN.out
            rw [hXe] at h1
            simp at h1
            have h2 := hF.perm.length_eq
            omega
          clear hXe hF hp hs HB
          go_wp2_with fail
          go_loopw [7, 8] (fun v7 v8 wr => ∃ (E E0 D D0 : List Nat), v7 = .int .i64 (E.length : Int) ∧ v8 = .int .i64 ((E.length + b2 : Nat) : Int) ∧ E.length + D.length + Y.length = N ∧ Hid (X = E0 ++ (D0 ++ Y) ∧ Full key b2 E E0 ∧ Full key bs D D0) ∧ Hid (RowS enc 3 tail blk (E ++ (D ++ Z)) wr) ∧ Hid (R.Keeps [blk] w wr)) (fun v7 _ _ => N - (intOf v7).toNat)
          case atStart => exact ⟨[], [], D, D0, rfl, by simp, by simpa using hNY, Lib.hid ⟨HXE.out.1, Full.nil, HXE.out.2⟩, HR, HK⟩
          case round =>
            rename World => wr
            obtain ⟨E, E0, D, D0, rfl, rfl, hDR, HD, HRr, HKr⟩ := hrel
            obtain ⟨a, ha⟩ : ∃ a, E.length = a := ⟨_, rfl⟩
            obtain ⟨b, hb⟩ : ∃ b, a + b2 = b := ⟨_, rfl⟩
            obtain ⟨m1, hm1⟩ : ∃ m1, a + bs = m1 := ⟨_, rfl⟩
            rw [ha] at hDR
            rw [ha, hb]
            have em : (a : Int) + (bs : Int) = (m1 : Int) := by omega
            have wm := wr_small (x := m1) (by omega)
            have HA := Lib.hid ha
            clear ha
            have hYl : Z.length = Y.length := HZ.out.1.length_eq
            have HYL := Lib.hid hYl
            clear hYl
            by_cases hle : b ≤ N
            · have hle' : (b : Int) ≤ (N : Int) := by omega
              rcases HD.out.2.2.mult with ⟨h1, _⟩ | ⟨Z1, X1, D1, D10, hD1, hD10, hp1, hs1, hl1, hF1⟩
              · exfalso; rw [h1] at hDR; simp at hDR; omega
              rcases hF1.mult with ⟨h1, _⟩ | ⟨Z2, X2, D2, D20, hD2, hD20, hp2, hs2, hl2, hF2⟩
              · exfalso; rw [hD1, h1] at hDR; have := hp1.length_eq; simp at hDR; omega
              subst hD1 hD2 hD10 hD20
              have hz1 : Z1.length = bs := by rw [hp1.length_eq]; exact hl1
              have hz2 : Z2.length = bs := by rw [hp2.length_eq]; exact hl2
              obtain ⟨b3, hb3⟩ : ∃ b3, b + b2 = b3 := ⟨_, rfl⟩
              have e4 : (b : Int) + (b2 : Int) = (b3 : Int) := by omega
              have w4 := wr_small (x := b3) (by omega)
              have hall : ∀ x, x ∈ X1 ++ X2 → x < n := fun x hx => HXN.out x (by rw [HD.out.1]; simp only [List.mem_append] at hx ⊢; rcases hx with h | h <;> simp [h])
              have hord : ∀ x, x ∈ X1 → ∀ y, y ∈ X2 → x < y := fun x hx y hy => by
                have h1 := HX.out
                rw [HD.out.1, List.append_assoc, List.append_assoc] at h1
                exact (List.pairwise_append.1 (List.pairwise_append.1 h1).2.1).2.2 x hx y (by simp [hy])
              have hcall := symMerge_c henc EG.out HC.out (cap := cap) N (by omega) (Z1.length + Z2.length) E Z1 Z2 (D2 ++ Z) _ _ _ _ wr (by simp) (Nat.le_refl _) (HK0.out.trans HKr.out (fun k hk _ => hk)) HRr.out (by have := HA.out; have := HYL.out; simp at hDR ⊢; omega) rfl rfl rfl (by omega) (by omega) hs1 hs2 (fun x hx y hy => hord x (hp1.subset hx) y (hp2.subset hy)) (fun x hx => hall x (List.mem_append_left _ (hp1.subset hx))) (fun y hy => hall y (List.mem_append_right _ (hp2.subset hy)))
              rw [HA.out, hz1, hz2, show a + bs + bs = b by omega, hm1] at hcall
              have HCALL := Lib.hid hcall
              have HPP := Lib.hid (And.intro hp1 (And.intro hp2 (And.intro hl1 (And.intro hl2 hF2))))
              clear hcall hall hord hp1 hp2 hs1 hs2 hF1 hF2 hl1 hl2
              have HZZ := Lib.hid (And.intro hz1 hz2)
              clear hz1 hz2
              go_wp2_with fail
              refine HCALL.out.mono ?_
              rintro e w4 ⟨rfl, W, hz1, hz2, hz3, hz4⟩
              have HW := Lib.hid (And.intro hz1 hz2)
              have HK5 := Lib.hid (HKr.out.trans hz3 (fun k hk _ => hk))
              have HR5 := Lib.hid hz4
              clear hz1 hz2 hz3 hz4
              go_wp2_with fail
              have hwl : W.length = b2 := by rw [HW.out.1.length_eq]; simp [HZZ.out]; omega
              refine ⟨⟨E ++ W, E0 ++ (X1 ++ X2), D2, D20, by rw [List.length_append, HA.out, hwl, hb], by rw [List.length_append, HA.out, hwl, hb, hb3], by rw [List.length_append, HA.out, hwl]; have := HZZ.out; simp at hDR; omega, Lib.hid ⟨by rw [HD.out.1]; simp, HD.out.2.1.snoc (HW.out.1.trans (HPP.out.1.append HPP.out.2.1)) HW.out.2 (by simp [HPP.out.2.2.1, HPP.out.2.2.2.1]; omega), HPP.out.2.2.2.2⟩, Lib.hid (by have := HR5.out; simpa using this), HK5⟩, by simp [intOf]; omega⟩
            · have hle' : ¬ (b : Int) ≤ (N : Int) := by omega
              by_cases hmN : m1 < N
              · have hmN' : (m1 : Int) < (N : Int) := by omega
                rcases HD.out.2.2.mult with ⟨h1, _⟩ | ⟨Z1, X1, D1, D10, hD1, hD10, hp1, hs1, hl1, hF1⟩
                · exfalso; rw [h1] at hDR; simp at hDR; omega
                have hz1 : Z1.length = bs := by rw [hp1.length_eq]; exact hl1
                rcases hF1.mult with ⟨h1, h2⟩ | ⟨Z2, X2, D2, D20, hD2, hD20, hp2, hs2, hl2, hF2⟩
                rotate_left
                · exfalso; rw [hD1, hD2] at hDR; have := hp2.length_eq; simp at hDR; omega
                subst h1 h2 hD1 hD10
                simp only [List.append_nil] at HD HRr hDR
                have hall : ∀ x, x ∈ X1 ++ Y → x < n := fun x hx => HXN.out x (by rw [HD.out.1]; simp only [List.mem_append] at hx ⊢; rcases hx with h | h <;> simp [h])
                have hord : ∀ x, x ∈ X1 → ∀ y, y ∈ Y → x < y := fun x hx y hy => by
                  have h1 := HX.out
                  rw [HD.out.1] at h1
                  exact (List.pairwise_append.1 (List.pairwise_append.1 h1).2.1).2.2 x hx y hy
                have hzl := HYL.out
                have hcall := symMerge_c henc EG.out HC.out (cap := cap) N (by omega) (Z1.length + Z.length) E Z1 Z [] _ _ _ _ wr (by simp) (Nat.le_refl _) (HK0.out.trans HKr.out (fun k hk _ => hk)) HRr.out (by have := HA.out; simp; omega) rfl rfl rfl (by omega) (by omega) hs1 HZ.out.2 (fun x hx y hy => hord x (hp1.subset hx) y (HZ.out.1.subset hy)) (fun x hx => hall x (List.mem_append_left _ (hp1.subset hx))) (fun y hy => hall y (List.mem_append_right _ (HZ.out.1.subset hy)))
                rw [HA.out, hz1, show a + bs + Z.length = N by omega, hm1] at hcall
                have HCALL := Lib.hid hcall
                have HPP := Lib.hid (And.intro hp1 hl1)
                clear hcall hall hord hp1 hs1 hF1 hl1
                have HZZ := Lib.hid hz1
                clear hz1 hzl
                go_wp2_with fail
                refine HCALL.out.mono ?_
                rintro e w4 ⟨rfl, W, hz1, hz2, hz3, hz4⟩
                have HB1 : Hid (Blk key b2 (E ++ W) X) := Lib.hid ⟨E, E0, W, X1 ++ Y, rfl, HD.out.1, HD.out.2.1, hz1.trans (HPP.out.1.append HZ.out.1), hz2, by have := HPP.out.2; simp; omega⟩
                have HK5 := Lib.hid (HKr.out.trans hz3 (fun k hk _ => hk))
                have HR5 : Hid (RowS enc 3 tail blk (E ++ W) _) := Lib.hid (by simpa using hz4)
                clear hz1 hz2 hz3 hz4
                go_wp2_with fail
                exact ⟨⟨b2, E ++ W, rfl, by omega, by omega, HB1, HR5, HK5⟩, by simp [intOf]; omega⟩
              · have hmN' : ¬ (m1 : Int) < (N : Int) := by omega
                have HB1 : Hid (Blk key b2 (E ++ (D ++ Z)) X) := by
                  refine Lib.hid ⟨E, E0, D ++ Z, D0 ++ Y, rfl, HD.out.1, HD.out.2.1, HD.out.2.2.perm.append HZ.out.1, ?_, ?_⟩
                  · rcases HD.out.2.2.mult with ⟨h1, _⟩ | ⟨Z1, X1, D1, D10, hD1, hD10, hp1, hs1, hl1, hF1⟩
                    · rw [h1]; exact HZ.out.2
                    · have hz1 : Z1.length = bs := by rw [hp1.length_eq]; exact hl1
                      have h3 := HYL.out
                      rw [hD1] at hDR
                      simp at hDR
                      have e5 : D1 = [] := List.eq_nil_of_length_eq_zero (by omega)
                      have e6 : Z = [] := List.eq_nil_of_length_eq_zero (by omega)
                      rw [hD1, e5, e6]
                      simpa using hs1
                  · have := HD.out.2.2.perm.length_eq
                    simp
                    omega
                go_wp2_with fail
                exact ⟨⟨b2, _, rfl, by omega, by omega, HB1, HRr, HKr⟩, by simp [intOf]; omega⟩
        · have hlt' : ¬ (bs : Int) < (N : Int) := by omega
          go_wp2_with fail
          go_end0
          have := HB.out.done (by rw [HN.out]; omega)
          exact ⟨rfl, L, this.1, this.2, HK.out, HR.out⟩
end Go.Proofs.Ytpjobcnfjpbaeaa.A

namespace Go.Proofs.Ytpjobcnfjpbaeaa.A
open Go.RowKit Go.Proofs.YtpjobcnfjpbaeaaW.PrintWords Go.Proofs.YtpjobcnfjpbaeaaW.PrintLast Go.Proofs.YtpjobcnfjpbaeaaW.PrintMore
open Go.Proofs.Ytpjobcnfjpbaeaa.PA
def insL (key : Nat → Int) (x : Nat) : List Nat → List Nat
  | [] => [x]
  | y :: l => if key x < key y ∨ (key x = key y ∧ x < y) then x :: y :: l else y :: insL key x l
def ordL (key : Nat → Int) (n : Nat) : List Nat := (List.range n).foldr (insL key) []
theorem insL_perm (key : Nat → Int) (x : Nat) : ∀ l, (insL key x l).Perm (x :: l)
  | [] => List.Perm.refl _
  | y :: l => by
    unfold insL
    split
    · exact List.Perm.refl _
    · exact ((List.perm_cons y).2 (insL_perm key x l)).trans (List.Perm.swap x y l)
theorem insL_srt {key : Nat → Int} {x : Nat} : ∀ {l}, Srt key l → x ∉ l → Srt key (insL key x l)
  | [], _, _ => List.pairwise_singleton _ _
  | y :: l, h, hx => by
    have h1 := List.pairwise_cons.1 h
    simp only [List.mem_cons, not_or] at hx
    unfold insL
    split
    · rename_i hc
      refine List.pairwise_cons.2 ⟨fun z hz => ?_, h⟩
      rcases List.mem_cons.1 hz with rfl | hz
      · exact hc
      · exact lx.trans hc (h1.1 z hz)
    · rename_i hc
      refine List.pairwise_cons.2 ⟨fun z hz => ?_, insL_srt h1.2 hx.2⟩
      rcases List.mem_cons.1 ((insL_perm key x l).subset hz) with rfl | hz
      · exact lx.not hc (fun e => hx.1 e.symm)
      · exact h1.1 z hz
theorem fold_ins (key : Nat → Int) : ∀ l : List Nat, l.Nodup → (l.foldr (insL key) []).Perm l ∧ Srt key (l.foldr (insL key) [])
  | [], _ => ⟨List.Perm.refl _, Srt.nil⟩
  | x :: l, h => by
    have h1 := List.nodup_cons.1 h
    obtain ⟨i1, i2⟩ := fold_ins key l h1.2
    refine ⟨(insL_perm key x _).trans ((List.perm_cons x).2 i1), insL_srt i2 (fun hx => h1.1 (i1.subset hx))⟩
theorem ordL_perm (key : Nat → Int) (n : Nat) : (ordL key n).Perm (List.range n) := (fold_ins key _ List.nodup_range).1
theorem ordL_srt (key : Nat → Int) (n : Nat) : Srt key (ordL key n) := (fold_ins key _ List.nodup_range).2
theorem ordL_unique {key : Nat → Int} {n : Nat} {Z : List Nat} (h1 : Z.Perm (List.range n)) (h2 : Srt key Z) : Z = ordL key n :=
  srt_unique h2 (ordL_srt key n) (h1.trans (ordL_perm key n).symm)
set_option maxHeartbeats 8000000 in
set_option maxRecDepth 100000 in
theorem sortStable_c {key : Nat → Int} {enc : Nat → Value} (henc : ∀ x, ∃ v, enc x = .int .i64 v) {tail : List Value} {blk cap g : Nat} {cb : Array Value} {w0 : World} (N : Nat) (eg : Enters g) (hC : CmpS key enc N blk g cb w0)
    (w : World) (hK0 : R.Keeps [blk] w0 w) (h : RowS enc 3 tail blk (List.range N) w) (hn : N < 500000) :
    Calls Try.prog 48 #[.slice (some ⟨blk, 0, none⟩) N cap, .func (.func g) #[] cb] w fun e w' => e = .returned (.tuple #[]) ∧ R.Keeps [blk] w w' ∧ RowS enc 3 tail blk (ordL key N) w' := by
  have e95 : ∀ args w, (callFunc 69 args).run Try.prog w = .ok (.enter 69 args) w := enters_mk Try.func69 (by kernel_rfl) rfl
  have HCALL := Lib.hid (stable_c henc eg hC (cap := cap) (List.range N) N w hK0 h (by simp) hn (List.pairwise_lt_range) (fun x hx => List.mem_range.1 hx))
  clear h hK0 hC eg
  go_enter Try.func48, Try.ntmps48
  go_wp2_with fail
  refine HCALL.out.mono ?_
  rintro e w4 ⟨rfl, Z, hz1, hz2, hz3, hz4⟩
  rw [ordL_unique hz1 hz2] at hz4
  have HK4 := Lib.hid hz3
  have HR4 := Lib.hid hz4
  clear hz1 hz2 hz3 hz4
  go_wp2_with fail
  go_end0
  exact ⟨rfl, HK4.out, HR4.out⟩
end Go.Proofs.Ytpjobcnfjpbaeaa.A

namespace Go.Proofs.Ytpjobcnfjpbaeaa.A
open Go.RowKit Go.Proofs.YtpjobcnfjpbaeaaW.PrintWords Go.Proofs.YtpjobcnfjpbaeaaW.PrintLast Go.Proofs.YtpjobcnfjpbaeaaW.PrintMore
open Go.Proofs.Ytpjobcnfjpbaeaa.PA
abbrev encN (i : Nat) : Value := .int .i64 (i : Int)
theorem encN_int (x : Nat) : ∃ v, encN x = .int .i64 v := ⟨_, rfl⟩
theorem owns_row {w : World} {base N g cap : Nat} {L : List Nat} (hL : L.length = N) (h : w.ownsRow base 3 1 (.slice (some ⟨g, 0, none⟩) N cap) N (L.map encN)) : base ≤ g ∧ N ≤ cap ∧ cap ≤ maxLen ∧ ∃ tail : List Value, tail.length + N = cap ∧ RowS encN 3 tail g L w := by
  obtain ⟨h1, h2⟩ := h
  rcases h2 with ⟨h3, _⟩ | ⟨g', cap', cur, e, hb, hg, hn, hc, hs, ht⟩
  · cases h3
  · simp only [Value.slice.injEq, Option.some.injEq, Addr.mk.injEq, and_true, true_and] at e
    obtain ⟨rfl, rfl⟩ := e
    rw [Nat.mul_one] at ht hs
    refine ⟨hb, hn, hc, cur.toList.drop N, by simp; omega, ?_⟩
    unfold RowS
    rw [hg, ← ht, List.take_append_drop]
theorem row_owns {w : World} {base N g cap : Nat} {L : List Nat} {tail : List Value} (hL : L.length = N) (hb : base ≤ g) (hn : N ≤ cap) (hc : cap ≤ maxLen) (ht : tail.length + N = cap) (h : RowS encN 3 tail g L w) : w.ownsRow base 3 1 (.slice (some ⟨g, 0, none⟩) N cap) N (L.map encN) := by
  refine ⟨by simp [hL], .inr ⟨g, cap, _, rfl, hb, h, hn, hc, by simp [hL]; omega, ?_⟩⟩
  simp [hL]
def keyS (l : List S47) (i : Nat) : Int := (l.getD i ⟨0, 0, 0⟩).f0
def ordG (l : List S47) : List Int := (ordL (keyS l) l.length).map fun i => ((i : Nat) : Int)
theorem cmpI_neg (x y : Int) : cmpI x y < 0 ↔ x < y := by
  unfold cmpI
  split
  · simp_all
  · split <;> simp_all
theorem Reads49.keeps {l : List S47} {g : Nat} {A : Addr} {c blk : Nat} {w W : World} (h : Reads49 l ⟨g, 0, none⟩ A c w) (h1 : g ≠ blk) (h2 : A.block ≠ blk) (hk : R.Keeps [blk] w W) : Reads49 l ⟨g, 0, none⟩ A c W :=
  ⟨hk.cell h.box (by simp; exact h1), fun k x e => hk.cell (h.from_ k x e) (by rw [addr_block]; simp; exact h2), fun k x e => hk.cell (h.to_ k x e) (by show (A.add (k * 3)).block ∉ _; rw [addr_block]; simp; exact h2)⟩
theorem cmpS49 {l : List S47} {g : Nat} {A : Addr} {c blk : Nat} {w : World} (hl : l.length ≤ 1000) (h : Reads49 l ⟨g, 0, none⟩ A c w) (ha : Apart l blk g A w) : CmpS (keyS l) encN l.length blk 49 #[.pointer (some ⟨g, 0, none⟩)] w := by
  intro W hW x y hx hy
  have ex : l[x]? = some (l.getD x ⟨0, 0, 0⟩) := by rw [List.getD_eq_getElem?_getD]; simp [hx]
  have ey : l[y]? = some (l.getD y ⟨0, 0, 0⟩) := by rw [List.getD_eq_getElem?_getD]; simp [hy]
  refine (cmp49_c l g A c x y _ _ hl ex ey W (h.keeps ha.gne ha.Ane hW)).mono ?_
  rintro e w' ⟨rfl, q, rfl⟩
  exact ⟨_, rfl, cmpI_neg _ _, ⟨rfl, rfl, rfl, Nat.le_refl _, fun _ _ => rfl⟩⟩
theorem ordG_len (l : List S47) : (ordG l).length = l.length := by unfold ordG; rw [List.length_map, (ordL_perm _ _).length_eq]; simp
theorem sort_any (l : List S47) (hl : l.length ≤ 1000) : SortOK l (ordG l) := by
  refine ⟨ordG_len l, ?_⟩
  intro w base blk cap g A c hR hA hO
  have e0 : ints (iota l.length) = (List.range l.length).map encN := by unfold ints iota; rw [List.map_map]; rfl
  rw [e0] at hO
  obtain ⟨hb, hn, hc, tail, ht, hrow⟩ := owns_row (L := List.range l.length) (by simp) hO
  refine (sortStable_c encN_int (cap := cap) l.length enters49 (cmpS49 hl hR hA) w (R.Keeps.refl _ _) hrow (by omega)).mono ?_
  rintro e w2 ⟨rfl, hk, hr⟩
  have e1 : ints (ordG l) = (ordL (keyS l) l.length).map encN := by unfold ints ordG; rw [List.map_map]; rfl
  rw [e1]
  exact ⟨rfl, row_owns (by rw [(ordL_perm _ _).length_eq]; simp) hb hn hc ht hr, hk⟩
end Go.Proofs.Ytpjobcnfjpbaeaa.A

namespace Go.Proofs.Ytpjobcnfjpbaeaa.PA
open Go.RowKit Go.Proofs.YtpjobcnfjpbaeaaW.PrintWords Go.Proofs.YtpjobcnfjpbaeaaW.PrintLast Go.Proofs.YtpjobcnfjpbaeaaW.PrintMore
open Go.Proofs.Ytpjobcnfjpbaeaa.A Go.Proofs.Ytpjobcnfjpbaeaa.M
def rooms_Assign.f (l0 : List S47) : Option (List Int × Int × Int) :=
  if areB l0 then some ((assignF l0 (ordG l0)).2, ((assignF l0 (ordG l0)).1.length : Int), 0) else some ([], 0, 2)
theorem ordG_rng {l : List S47} : ∀ i, i ∈ ordG l → 0 ≤ i ∧ i < l.length := by
  intro i hi
  unfold ordG at hi
  obtain ⟨k, hk, rfl⟩ := List.mem_map.1 hi
  have := List.mem_range.1 ((ordL_perm _ _).subset hk)
  omega
theorem rooms_Assign.calls (A0 : Option Addr) (c0 : Nat) (l0 : List (S47)) (r1 : List Int) (r2 : Int) (r3 : Int) (w : World) (hr0 : Kd.C k47 w A0 l0.length l0) (_hc0 : l0.length ≤ c0) (h : rooms_Assign.f l0 = some (r1, r2, r3)) :
    Calls Try.prog 31 #[.slice A0 l0.length c0] w fun e w' => ∃ v0_ : Value, e = .returned (.tuple #[v0_, .int .i64 r2, .int .i64 r3]) ∧ Kd.R (Kd.int .i64) 3 w' w.heap.size (fun _ => True) v0_ r1 ∧ Below w.heap.size w w' := by
  unfold rooms_Assign.f at h
  cases hcb : areB l0 with
  | false =>
    rw [hcb] at h
    simp only [Bool.false_eq_true, if_false, Option.some.injEq, Prod.mk.injEq] at h
    obtain ⟨rfl, rfl, rfl⟩ := h
    exact (Assign_no A0 c0 l0 w hr0 hcb).mono fun e w' ⟨he, hb⟩ => ⟨_, he, Kd.R_nil _ _ _ _ _, hb⟩
  | true =>
    rw [hcb, if_pos rfl] at h
    simp only [Option.some.injEq, Prod.mk.injEq] at h
    obtain ⟨rfl, rfl, rfl⟩ := h
    by_cases h0 : l0.length = 0
    · obtain rfl : l0 = [] := List.eq_nil_of_length_eq_zero h0
      exact Assign_nil A0 c0 w hr0
    · have h1 : 0 < l0.length := by omega
      obtain ⟨ad, rfl, _⟩ := hr0.2.2 h1
      have hl40 : l0.length ≤ 40 := by
        have h9 := hcb
        simp only [areB, Bool.and_eq_true, decide_eq_true_eq] at h9
        exact h9.1
      exact Assign_yes ad c0 l0 (ordG l0) w hr0 hcb h1 (sort_any l0 (by omega)) (fun i hi => ordG_rng i hi)
def rooms_Busiest.f (k : Nat) (l0 : List S47) : Option (Int × Int × Int) := busiestF k l0
theorem rooms_Busiest.calls (k : Nat) (A0 : Option Addr) (c0 : Nat) (l0 : List (S47)) (r1 : Int) (r2 : Int) (r3 : Int) (w : World) (hr0 : Kd.C k47 w A0 l0.length l0) (hc0 : l0.length ≤ c0) (h : rooms_Busiest.f k l0 = some (r1, r2, r3)) :
    Calls Try.prog 34 #[.slice A0 l0.length c0] w fun e w' => e = .returned (.tuple #[.int .i64 r1, .int .i64 r2, .int .i64 r3]) ∧ Below w.heap.size w w' := Busiest_c A0 c0 l0 k r1 r2 r3 w hr0 hc0 h
def turndownlaw08_awake.f : Option Bool := some true
theorem turndownlaw08_awake.calls  (r : Bool) (w : World) (h : turndownlaw08_awake.f  = some r) :
    Calls Try.prog 20 #[] w fun e w' => e = .returned (.bool r) ∧ Below w.heap.size w w' := by
  obtain rfl := Option.some.inj h
  exact awake_c w
end Go.Proofs.Ytpjobcnfjpbaeaa.PA

namespace Go.Proofs.Ytpjobcnfjpbaeaa.PA
open Go.RowKit Go.Proofs.YtpjobcnfjpbaeaaW.PrintWords Go.Proofs.YtpjobcnfjpbaeaaW.PrintLast Go.Proofs.YtpjobcnfjpbaeaaW.PrintMore
attribute [local go_sem] max2_int min2_int max_two min_two max_three min_three max_four min_four
set_option linter.unusedVariables false
set_option linter.unusedSimpArgs false
def turndownlaw08_RoomsAssigns.f (k : Nat) (l0 : List (S47)) : Option (Bool) := (turndownlaw08_bookings.f l0).bind fun t393 => ((rooms_Assign.f t393).bind fun bt396 => ((rooms_Busiest.f k t393).bind fun bt401 => ((turndownref08_Bookings.f k t393).bind fun t404 => (if t404 = true then ((turndownref08_Assign.f k t393).bind fun bt406 => ((turndownref08_Busiest.f k t393).bind fun bt410 => ((turndownlaw08_ints.f k bt396.1 bt406.1).bind fun t412 => (if t412 = true then (if bt396.2.1 = bt406.2 then (if bt396.2.2 = 0 then (if bt401.1 = bt410.1 then (if bt401.2.1 = bt410.2 then (if bt401.2.2 = 0 then ((turndownlaw08_awake.f).bind fun t413 => (some t413)) else (some false)) else (some false)) else (some false)) else (some false)) else (some false)) else (some false))))) else (if (bt396.1.length : Int) = 0 then (if bt396.2.1 = 0 then (if bt396.2.2 = 2 then (if bt401.1 = 0 then (if bt401.2.1 = 0 then (if bt401.2.2 = 2 then ((turndownlaw08_awake.f).bind fun t405 => (some t405)) else (some false)) else (some false)) else (some false)) else (some false)) else (some false)) else (some false))))))
set_option maxHeartbeats 8000000 in
set_option maxRecDepth 100000 in
theorem turndownlaw08_RoomsAssigns.calls (k : Nat) (A0 : Option Addr) (c0 : Nat) (l0 : List (S47)) (r : Bool) (w : World) (hr0 : Kd.C k47 w A0 l0.length l0) (hc0 : l0.length ≤ c0) (h : turndownlaw08_RoomsAssigns.f k l0 = some r) :
    Calls Try.prog 9 #[.slice A0 l0.length c0] w fun e w' => e = .returned (.bool r) ∧ Below w.heap.size w w' := by
  have HR0 := Aside0.mk hr0
  have HC0 := Aside0.mk hc0
  clear hr0 hc0
  have HB := Aside0.mk (Below.refl w.heap.size w)
  have H : ((turndownlaw08_bookings.f l0).bind fun t393 => ((rooms_Assign.f t393).bind fun bt396 => ((rooms_Busiest.f k t393).bind fun bt401 => ((turndownref08_Bookings.f k t393).bind fun t404 => (if t404 = true then ((turndownref08_Assign.f k t393).bind fun bt406 => ((turndownref08_Busiest.f k t393).bind fun bt410 => ((turndownlaw08_ints.f k bt396.1 bt406.1).bind fun t412 => (if t412 = true then (if bt396.2.1 = bt406.2 then (if bt396.2.2 = 0 then (if bt401.1 = bt410.1 then (if bt401.2.1 = bt410.2 then (if bt401.2.2 = 0 then ((turndownlaw08_awake.f).bind fun t413 => (some t413)) else (some false)) else (some false)) else (some false)) else (some false)) else (some false)) else (some false))))) else (if (bt396.1.length : Int) = 0 then (if bt396.2.1 = 0 then (if bt396.2.2 = 2 then (if bt401.1 = 0 then (if bt401.2.1 = 0 then (if bt401.2.2 = 2 then ((turndownlaw08_awake.f).bind fun t405 => (some t405)) else (some false)) else (some false)) else (some false)) else (some false)) else (some false)) else (some false))))))) = some r := h
  clear h
  replace H := Option.bind_eq_some_iff.mp H
  obtain ⟨t393, A20, H⟩ := H
  replace H : ((rooms_Assign.f t393).bind fun bt396 => ((rooms_Busiest.f k t393).bind fun bt401 => ((turndownref08_Bookings.f k t393).bind fun t404 => (if t404 = true then ((turndownref08_Assign.f k t393).bind fun bt406 => ((turndownref08_Busiest.f k t393).bind fun bt410 => ((turndownlaw08_ints.f k bt396.1 bt406.1).bind fun t412 => (if t412 = true then (if bt396.2.1 = bt406.2 then (if bt396.2.2 = 0 then (if bt401.1 = bt410.1 then (if bt401.2.1 = bt410.2 then (if bt401.2.2 = 0 then ((turndownlaw08_awake.f).bind fun t413 => (some t413)) else (some false)) else (some false)) else (some false)) else (some false)) else (some false)) else (some false))))) else (if (bt396.1.length : Int) = 0 then (if bt396.2.1 = 0 then (if bt396.2.2 = 2 then (if bt401.1 = 0 then (if bt401.2.1 = 0 then (if bt401.2.2 = 2 then ((turndownlaw08_awake.f).bind fun t405 => (some t405)) else (some false)) else (some false)) else (some false)) else (some false)) else (some false)) else (some false)))))) = some r := H
  have A2 := Aside0.mk A20
  clear A20
  replace H := Option.bind_eq_some_iff.mp H
  obtain ⟨⟨t396, t397, t398⟩, A30, H⟩ := H
  replace H : ((rooms_Busiest.f k t393).bind fun bt401 => ((turndownref08_Bookings.f k t393).bind fun t404 => (if t404 = true then ((turndownref08_Assign.f k t393).bind fun bt406 => ((turndownref08_Busiest.f k t393).bind fun bt410 => ((turndownlaw08_ints.f k t396 bt406.1).bind fun t412 => (if t412 = true then (if t397 = bt406.2 then (if t398 = 0 then (if bt401.1 = bt410.1 then (if bt401.2.1 = bt410.2 then (if bt401.2.2 = 0 then ((turndownlaw08_awake.f).bind fun t413 => (some t413)) else (some false)) else (some false)) else (some false)) else (some false)) else (some false)) else (some false))))) else (if (t396.length : Int) = 0 then (if t397 = 0 then (if t398 = 2 then (if bt401.1 = 0 then (if bt401.2.1 = 0 then (if bt401.2.2 = 2 then ((turndownlaw08_awake.f).bind fun t405 => (some t405)) else (some false)) else (some false)) else (some false)) else (some false)) else (some false)) else (some false))))) = some r := H
  have A3 := Aside0.mk A30
  clear A30
  replace H := Option.bind_eq_some_iff.mp H
  obtain ⟨⟨t401, t402, t403⟩, A40, H⟩ := H
  replace H : ((turndownref08_Bookings.f k t393).bind fun t404 => (if t404 = true then ((turndownref08_Assign.f k t393).bind fun bt406 => ((turndownref08_Busiest.f k t393).bind fun bt410 => ((turndownlaw08_ints.f k t396 bt406.1).bind fun t412 => (if t412 = true then (if t397 = bt406.2 then (if t398 = 0 then (if t401 = bt410.1 then (if t402 = bt410.2 then (if t403 = 0 then ((turndownlaw08_awake.f).bind fun t413 => (some t413)) else (some false)) else (some false)) else (some false)) else (some false)) else (some false)) else (some false))))) else (if (t396.length : Int) = 0 then (if t397 = 0 then (if t398 = 2 then (if t401 = 0 then (if t402 = 0 then (if t403 = 2 then ((turndownlaw08_awake.f).bind fun t405 => (some t405)) else (some false)) else (some false)) else (some false)) else (some false)) else (some false)) else (some false)))) = some r := H
  have A4 := Aside0.mk A40
  clear A40
  replace H := Option.bind_eq_some_iff.mp H
  obtain ⟨t404, A50, H⟩ := H
  replace H : (if t404 = true then ((turndownref08_Assign.f k t393).bind fun bt406 => ((turndownref08_Busiest.f k t393).bind fun bt410 => ((turndownlaw08_ints.f k t396 bt406.1).bind fun t412 => (if t412 = true then (if t397 = bt406.2 then (if t398 = 0 then (if t401 = bt410.1 then (if t402 = bt410.2 then (if t403 = 0 then ((turndownlaw08_awake.f).bind fun t413 => (some t413)) else (some false)) else (some false)) else (some false)) else (some false)) else (some false)) else (some false))))) else (if (t396.length : Int) = 0 then (if t397 = 0 then (if t398 = 2 then (if t401 = 0 then (if t402 = 0 then (if t403 = 2 then ((turndownlaw08_awake.f).bind fun t405 => (some t405)) else (some false)) else (some false)) else (some false)) else (some false)) else (some false)) else (some false))) = some r := H
  have A5 := Aside0.mk A50
  clear A50
  by_cases c6 : t404 = true
  · subst c6
    have H1 : ((turndownref08_Assign.f k t393).bind fun bt406 => ((turndownref08_Busiest.f k t393).bind fun bt410 => ((turndownlaw08_ints.f k t396 bt406.1).bind fun t412 => (if t412 = true then (if t397 = bt406.2 then (if t398 = 0 then (if t401 = bt410.1 then (if t402 = bt410.2 then (if t403 = 0 then ((turndownlaw08_awake.f).bind fun t413 => (some t413)) else (some false)) else (some false)) else (some false)) else (some false)) else (some false)) else (some false))))) = some r := by rw [if_pos rfl] at H; exact H
    clear H
    have H := H1
    clear H1
    replace H := Option.bind_eq_some_iff.mp H
    obtain ⟨⟨t406, t407⟩, A70, H⟩ := H
    replace H : ((turndownref08_Busiest.f k t393).bind fun bt410 => ((turndownlaw08_ints.f k t396 t406).bind fun t412 => (if t412 = true then (if t397 = t407 then (if t398 = 0 then (if t401 = bt410.1 then (if t402 = bt410.2 then (if t403 = 0 then ((turndownlaw08_awake.f).bind fun t413 => (some t413)) else (some false)) else (some false)) else (some false)) else (some false)) else (some false)) else (some false)))) = some r := H
    have A7 := Aside0.mk A70
    clear A70
    replace H := Option.bind_eq_some_iff.mp H
    obtain ⟨⟨t410, t411⟩, A80, H⟩ := H
    replace H : ((turndownlaw08_ints.f k t396 t406).bind fun t412 => (if t412 = true then (if t397 = t407 then (if t398 = 0 then (if t401 = t410 then (if t402 = t411 then (if t403 = 0 then ((turndownlaw08_awake.f).bind fun t413 => (some t413)) else (some false)) else (some false)) else (some false)) else (some false)) else (some false)) else (some false))) = some r := H
    have A8 := Aside0.mk A80
    clear A80
    replace H := Option.bind_eq_some_iff.mp H
    obtain ⟨t412, A90, H⟩ := H
    replace H : (if t412 = true then (if t397 = t407 then (if t398 = 0 then (if t401 = t410 then (if t402 = t411 then (if t403 = 0 then ((turndownlaw08_awake.f).bind fun t413 => (some t413)) else (some false)) else (some false)) else (some false)) else (some false)) else (some false)) else (some false)) = some r := H
    have A9 := Aside0.mk A90
    clear A90
    by_cases c10 : t412 = true
    · subst c10
      have H1 : (if t397 = t407 then (if t398 = 0 then (if t401 = t410 then (if t402 = t411 then (if t403 = 0 then ((turndownlaw08_awake.f).bind fun t413 => (some t413)) else (some false)) else (some false)) else (some false)) else (some false)) else (some false)) = some r := by rw [if_pos rfl] at H; exact H
      clear H
      have H := H1
      clear H1
      by_cases c11 : t397 = t407
      · rw [if_pos c11] at H
        have c11b0 : (t397 == t407) = true := beq_iff_eq.mpr c11
        have c11b1 : (t397 != t407) = false := bne_eq_false_iff_eq.mpr c11
        clear c11
        by_cases c12 : t398 = 0
        · rw [if_pos c12] at H
          have c12b0 : (t398 == 0) = true := beq_iff_eq.mpr c12
          have c12b1 : (t398 != 0) = false := bne_eq_false_iff_eq.mpr c12
          clear c12
          by_cases c13 : t401 = t410
          · rw [if_pos c13] at H
            have c13b0 : (t401 == t410) = true := beq_iff_eq.mpr c13
            have c13b1 : (t401 != t410) = false := bne_eq_false_iff_eq.mpr c13
            clear c13
            by_cases c14 : t402 = t411
            · rw [if_pos c14] at H
              have c14b0 : (t402 == t411) = true := beq_iff_eq.mpr c14
              have c14b1 : (t402 != t411) = false := bne_eq_false_iff_eq.mpr c14
              clear c14
              by_cases c15 : t403 = 0
              · rw [if_pos c15] at H
                have c15b0 : (t403 == 0) = true := beq_iff_eq.mpr c15
                have c15b1 : (t403 != 0) = false := bne_eq_false_iff_eq.mpr c15
                clear c15
                replace H := Option.bind_eq_some_iff.mp H
                obtain ⟨t413, A160, H⟩ := H
                replace H : (some t413) = some r := H
                have A16 := Aside0.mk A160
                clear A160
                obtain rfl := Option.some.inj H
                go_enter Try.func9, Try.ntmps9
                go_wp2_with (first | ((with_reducible refine gate_callee (f := 14) rfl ?_); refine goesL_ (some 15) rfl rfl Try.func14 (by kernel_rfl) rfl #[.slice A0 l0.length c0] rfl (by (try simp only [List.map_toArray, List.map_cons, List.map_nil]); first | done | rfl | (simp only [List.length_drop, List.length_take]; rfl)) ?_; (with_reducible refine (turndownlaw08_bookings.calls _ _ l0 t393 _ ?side1 ?side2 A2.out).mono ?_); (case side1 => repeat (first | exact HR0.out | (with_reducible refine Kd.C_alloc ?_ _) | (with_reducible refine Kd.C_drewN ?_ _) | (with_reducible refine Kd.C_drew ?_))); (case side2 => exact HC0.out); rintro e w17 ⟨v394, rfl, ho0, hb⟩; refine ⟨_, rfl, ?_⟩; have n0_ := Aside0.mk (Kd.R_lower ho0 (below_size (by repeat (first | (with_reducible first | exact HB.out | apply below_alloc | apply pw_below_drewN | apply below_drew1) | exact HB.out)))); have n1_ := Aside0.mk (below_step (by repeat (first | (with_reducible first | exact HB.out | apply below_alloc | apply pw_below_drewN | apply below_drew1) | exact HB.out)) hb); clear HB; have HO395 := n0_; have HB := n1_; clear n0_ n1_; (try clear hb); (try clear hb2); (try clear hk); (try clear hi); (try clear ho0); obtain ⟨Ao18, co18, eo18⟩ := Kd.R_slice HO395.out; subst eo18) | ((with_reducible refine gate_callee (f := 31) rfl ?_); refine goesL_ (some 18) rfl rfl Try.func31 (by kernel_rfl) rfl #[.slice Ao18 t393.length co18] rfl (by (try simp only [List.map_toArray, List.map_cons, List.map_nil]); first | done | rfl | (simp only [List.length_drop, List.length_take]; rfl)) ?_; (with_reducible refine (rooms_Assign.calls _ _ t393 t396 t397 t398 _ ?side1 ?side2 A3.out).mono ?_); (case side1 => repeat (first | exact (Kd.R_reads' HO395.out).2.2 | (with_reducible refine Kd.C_alloc ?_ _) | (with_reducible refine Kd.C_drewN ?_ _) | (with_reducible refine Kd.C_drew ?_))); (case side2 => exact (Kd.R_reads' HO395.out).2.1); rintro e w19 ⟨v399, rfl, ho0, hb⟩; refine ⟨_, rfl, ?_⟩; have n0_ := Aside0.mk (Kd.R_below (by (with_reducible repeat (first | apply Kd.R_alloc | apply Kd.R_drewN | apply Kd.R_drew)); exact HO395.out) hb); have n1_ := Aside0.mk (Kd.R_lower ho0 (below_size (by repeat (first | (with_reducible first | exact HB.out | apply below_alloc | apply pw_below_drewN | apply below_drew1) | exact HB.out)))); have n2_ := Aside0.mk (below_step (by repeat (first | (with_reducible first | exact HB.out | apply below_alloc | apply pw_below_drewN | apply below_drew1) | exact HB.out)) hb); clear HO395; clear HB; have HO395 := n0_; have HO400 := n1_; have HB := n2_; clear n0_ n1_ n2_; (try clear hb); (try clear hb2); (try clear hk); (try clear hi); (try clear ho0)) | ((with_reducible refine gate_callee (f := 34) rfl ?_); refine goesL_ (some 24) rfl rfl Try.func34 (by kernel_rfl) rfl #[.slice Ao18 t393.length co18] rfl (by (try simp only [List.map_toArray, List.map_cons, List.map_nil]); first | done | rfl | (simp only [List.length_drop, List.length_take]; rfl)) ?_; (with_reducible refine (rooms_Busiest.calls k _ _ t393 t401 t402 t403 _ ?side1 ?side2 A4.out).mono ?_); (case side1 => repeat (first | exact (Kd.R_reads' HO395.out).2.2 | (with_reducible refine Kd.C_alloc ?_ _) | (with_reducible refine Kd.C_drewN ?_ _) | (with_reducible refine Kd.C_drew ?_))); (case side2 => exact (Kd.R_reads' HO395.out).2.1); rintro e w20 ⟨rfl, hb⟩; refine ⟨_, rfl, ?_⟩; have n0_ := Aside0.mk (Kd.R_below (by (with_reducible repeat (first | apply Kd.R_alloc | apply Kd.R_drewN | apply Kd.R_drew)); exact HO395.out) hb); have n1_ := Aside0.mk (Kd.R_below (by (with_reducible repeat (first | apply Kd.R_alloc | apply Kd.R_drewN | apply Kd.R_drew)); exact HO400.out) hb); have n2_ := Aside0.mk (below_step (by repeat (first | (with_reducible first | exact HB.out | apply below_alloc | apply pw_below_drewN | apply below_drew1) | exact HB.out)) hb); clear HO395; clear HO400; clear HB; have HO395 := n0_; have HO400 := n1_; have HB := n2_; clear n0_ n1_ n2_; (try clear hb); (try clear hb2); (try clear hk); (try clear hi)) | ((with_reducible refine gate_callee (f := 17) rfl ?_); refine goesL_ (some 29) rfl rfl Try.func17 (by kernel_rfl) rfl #[.slice Ao18 t393.length co18] rfl (by (try simp only [List.map_toArray, List.map_cons, List.map_nil]); first | done | rfl | (simp only [List.length_drop, List.length_take]; rfl)) ?_; (with_reducible refine (turndownref08_Bookings.calls k _ _ t393 true _ ?side1 ?side2 A5.out).mono ?_); (case side1 => repeat (first | exact (Kd.R_reads' HO395.out).2.2 | (with_reducible refine Kd.C_alloc ?_ _) | (with_reducible refine Kd.C_drewN ?_ _) | (with_reducible refine Kd.C_drew ?_))); (case side2 => exact (Kd.R_reads' HO395.out).2.1); rintro e w21 ⟨rfl, hb⟩; refine ⟨_, rfl, ?_⟩; have n0_ := Aside0.mk (Kd.R_below (by (with_reducible repeat (first | apply Kd.R_alloc | apply Kd.R_drewN | apply Kd.R_drew)); exact HO395.out) hb); have n1_ := Aside0.mk (Kd.R_below (by (with_reducible repeat (first | apply Kd.R_alloc | apply Kd.R_drewN | apply Kd.R_drew)); exact HO400.out) hb); have n2_ := Aside0.mk (below_step (by repeat (first | (with_reducible first | exact HB.out | apply below_alloc | apply pw_below_drewN | apply below_drew1) | exact HB.out)) hb); clear HO395; clear HO400; clear HB; have HO395 := n0_; have HO400 := n1_; have HB := n2_; clear n0_ n1_ n2_; (try clear hb); (try clear hb2); (try clear hk); (try clear hi)) | ((with_reducible refine gate_callee (f := 35) rfl ?_); refine goesL_ (some 59) rfl rfl Try.func35 (by kernel_rfl) rfl #[.slice Ao18 t393.length co18] rfl (by (try simp only [List.map_toArray, List.map_cons, List.map_nil]); first | done | rfl | (simp only [List.length_drop, List.length_take]; rfl)) ?_; (with_reducible refine (turndownref08_Assign.calls k _ _ t393 t406 t407 _ ?side1 ?side2 A7.out).mono ?_); (case side1 => repeat (first | exact (Kd.R_reads' HO395.out).2.2 | (with_reducible refine Kd.C_alloc ?_ _) | (with_reducible refine Kd.C_drewN ?_ _) | (with_reducible refine Kd.C_drew ?_))); (case side2 => exact (Kd.R_reads' HO395.out).2.1); rintro e w22 ⟨v408, rfl, ho0, hb⟩; refine ⟨_, rfl, ?_⟩; have n0_ := Aside0.mk (Kd.R_below (by (with_reducible repeat (first | apply Kd.R_alloc | apply Kd.R_drewN | apply Kd.R_drew)); exact HO395.out) hb); have n1_ := Aside0.mk (Kd.R_elder' (by (with_reducible repeat (first | apply Kd.R_alloc | apply Kd.R_drewN | apply Kd.R_drew)); exact HO400.out) (Kd.R_base ho0) hb); have n2_ := Aside0.mk (Kd.R_lower (Kd.R_new' ho0 (Kd.R_lt (by (with_reducible repeat (first | apply Kd.R_alloc | apply Kd.R_drewN | apply Kd.R_drew)); exact HO400.out))) (below_size (by repeat (first | (with_reducible first | exact HB.out | apply below_alloc | apply pw_below_drewN | apply below_drew1) | exact HB.out)))); have n3_ := Aside0.mk (below_step (by repeat (first | (with_reducible first | exact HB.out | apply below_alloc | apply pw_below_drewN | apply below_drew1) | exact HB.out)) hb); clear HO395; clear HO400; clear HB; have HO395 := n0_; have HO400 := n1_; have HO409 := n2_; have HB := n3_; clear n0_ n1_ n2_ n3_; (try clear hb); (try clear hb2); (try clear hk); (try clear hi); (try clear ho0)) | ((with_reducible refine gate_callee (f := 36) rfl ?_); refine goesL_ (some 64) rfl rfl Try.func36 (by kernel_rfl) rfl #[.slice Ao18 t393.length co18] rfl (by (try simp only [List.map_toArray, List.map_cons, List.map_nil]); first | done | rfl | (simp only [List.length_drop, List.length_take]; rfl)) ?_; (with_reducible refine (turndownref08_Busiest.calls k _ _ t393 t410 t411 _ ?side1 ?side2 A8.out).mono ?_); (case side1 => repeat (first | exact (Kd.R_reads' HO395.out).2.2 | (with_reducible refine Kd.C_alloc ?_ _) | (with_reducible refine Kd.C_drewN ?_ _) | (with_reducible refine Kd.C_drew ?_))); (case side2 => exact (Kd.R_reads' HO395.out).2.1); rintro e w' ⟨rfl, ⟨nd, rfl⟩⟩; refine ⟨_, rfl, ?_⟩; obtain ⟨Ao23, co23, eo23⟩ := Kd.R_slice HO400.out; subst eo23; obtain ⟨Ao24, co24, eo24⟩ := Kd.R_slice HO409.out; subst eo24) | ((with_reducible refine gate_callee (f := 32) rfl ?_); refine goesL_ (some 69) rfl rfl Try.func32 (by kernel_rfl) rfl #[.slice Ao23 t396.length co23, .slice Ao24 t406.length co24] rfl (by (try simp only [List.map_toArray, List.map_cons, List.map_nil]); first | done | rfl | (simp only [List.length_drop, List.length_take]; rfl)) ?_; (with_reducible refine (turndownlaw08_ints.calls k _ _ t396 _ _ t406 true _ ?side1 ?side2 ?side3 ?side4 A9.out).mono ?_); (case side1 => repeat (first | exact (Kd.R_reads' HO400.out).2.2 | (with_reducible refine Kd.C_alloc ?_ _) | (with_reducible refine Kd.C_drewN ?_ _) | (with_reducible refine Kd.C_drew ?_))); (case side2 => exact (Kd.R_reads' HO400.out).2.1); (case side3 => repeat (first | exact (Kd.R_reads' HO409.out).2.2 | (with_reducible refine Kd.C_alloc ?_ _) | (with_reducible refine Kd.C_drewN ?_ _) | (with_reducible refine Kd.C_drew ?_))); (case side4 => exact (Kd.R_reads' HO409.out).2.1); rintro e w' ⟨rfl, ⟨nd, rfl⟩⟩; refine ⟨_, rfl, ?_⟩) | (go_at_call 20; (with_reducible refine (turndownlaw08_awake.calls  t413 _ A16.out).mono ?_); rintro e w25 ⟨rfl, hb⟩; have n0_ := Aside0.mk (Kd.R_below (by (with_reducible repeat (first | apply Kd.R_alloc | apply Kd.R_drewN | apply Kd.R_drew)); exact HO395.out) hb); have n1_ := Aside0.mk (Kd.R_below (by (with_reducible repeat (first | apply Kd.R_alloc | apply Kd.R_drewN | apply Kd.R_drew)); exact HO400.out) hb); have n2_ := Aside0.mk (Kd.R_below (by (with_reducible repeat (first | apply Kd.R_alloc | apply Kd.R_drewN | apply Kd.R_drew)); exact HO409.out) hb); have n3_ := Aside0.mk (below_step (by repeat (first | (with_reducible first | exact HB.out | apply below_alloc | apply pw_below_drewN | apply below_drew1) | exact HB.out)) hb); clear HO395; clear HO400; clear HO409; clear HB; have HO395 := n0_; have HO400 := n1_; have HO409 := n2_; have HB := n3_; clear n0_ n1_ n2_ n3_; (try clear hb); (try clear hb2); (try clear hk); (try clear hi)))
                go_ret
                exact ⟨by first | rfl | (simp [errW_none, errW_some] <;> rfl) | (simp [*, errW_none, errW_some] <;> rfl), by repeat (first | (with_reducible first | exact HB.out | apply below_alloc | apply pw_below_drewN | apply below_drew1) | exact HB.out)⟩
              · rw [if_neg c15] at H
                have c15b0 : (t403 == 0) = false := beq_eq_false_iff_ne.mpr c15
                have c15b1 : (t403 != 0) = true := bne_iff_ne.mpr c15
                obtain rfl := Option.some.inj H
                go_enter Try.func9, Try.ntmps9
                go_wp2_with (first | ((with_reducible refine gate_callee (f := 14) rfl ?_); refine goesL_ (some 15) rfl rfl Try.func14 (by kernel_rfl) rfl #[.slice A0 l0.length c0] rfl (by (try simp only [List.map_toArray, List.map_cons, List.map_nil]); first | done | rfl | (simp only [List.length_drop, List.length_take]; rfl)) ?_; (with_reducible refine (turndownlaw08_bookings.calls _ _ l0 t393 _ ?side1 ?side2 A2.out).mono ?_); (case side1 => repeat (first | exact HR0.out | (with_reducible refine Kd.C_alloc ?_ _) | (with_reducible refine Kd.C_drewN ?_ _) | (with_reducible refine Kd.C_drew ?_))); (case side2 => exact HC0.out); rintro e w26 ⟨v394, rfl, ho0, hb⟩; refine ⟨_, rfl, ?_⟩; have n0_ := Aside0.mk (Kd.R_lower ho0 (below_size (by repeat (first | (with_reducible first | exact HB.out | apply below_alloc | apply pw_below_drewN | apply below_drew1) | exact HB.out)))); have n1_ := Aside0.mk (below_step (by repeat (first | (with_reducible first | exact HB.out | apply below_alloc | apply pw_below_drewN | apply below_drew1) | exact HB.out)) hb); clear HB; have HO395 := n0_; have HB := n1_; clear n0_ n1_; (try clear hb); (try clear hb2); (try clear hk); (try clear hi); (try clear ho0); obtain ⟨Ao27, co27, eo27⟩ := Kd.R_slice HO395.out; subst eo27) | ((with_reducible refine gate_callee (f := 31) rfl ?_); refine goesL_ (some 18) rfl rfl Try.func31 (by kernel_rfl) rfl #[.slice Ao27 t393.length co27] rfl (by (try simp only [List.map_toArray, List.map_cons, List.map_nil]); first | done | rfl | (simp only [List.length_drop, List.length_take]; rfl)) ?_; (with_reducible refine (rooms_Assign.calls _ _ t393 t396 t397 t398 _ ?side1 ?side2 A3.out).mono ?_); (case side1 => repeat (first | exact (Kd.R_reads' HO395.out).2.2 | (with_reducible refine Kd.C_alloc ?_ _) | (with_reducible refine Kd.C_drewN ?_ _) | (with_reducible refine Kd.C_drew ?_))); (case side2 => exact (Kd.R_reads' HO395.out).2.1); rintro e w28 ⟨v399, rfl, ho0, hb⟩; refine ⟨_, rfl, ?_⟩; have n0_ := Aside0.mk (Kd.R_below (by (with_reducible repeat (first | apply Kd.R_alloc | apply Kd.R_drewN | apply Kd.R_drew)); exact HO395.out) hb); have n1_ := Aside0.mk (Kd.R_lower ho0 (below_size (by repeat (first | (with_reducible first | exact HB.out | apply below_alloc | apply pw_below_drewN | apply below_drew1) | exact HB.out)))); have n2_ := Aside0.mk (below_step (by repeat (first | (with_reducible first | exact HB.out | apply below_alloc | apply pw_below_drewN | apply below_drew1) | exact HB.out)) hb); clear HO395; clear HB; have HO395 := n0_; have HO400 := n1_; have HB := n2_; clear n0_ n1_ n2_; (try clear hb); (try clear hb2); (try clear hk); (try clear hi); (try clear ho0)) | ((with_reducible refine gate_callee (f := 34) rfl ?_); refine goesL_ (some 24) rfl rfl Try.func34 (by kernel_rfl) rfl #[.slice Ao27 t393.length co27] rfl (by (try simp only [List.map_toArray, List.map_cons, List.map_nil]); first | done | rfl | (simp only [List.length_drop, List.length_take]; rfl)) ?_; (with_reducible refine (rooms_Busiest.calls k _ _ t393 t401 t402 t403 _ ?side1 ?side2 A4.out).mono ?_); (case side1 => repeat (first | exact (Kd.R_reads' HO395.out).2.2 | (with_reducible refine Kd.C_alloc ?_ _) | (with_reducible refine Kd.C_drewN ?_ _) | (with_reducible refine Kd.C_drew ?_))); (case side2 => exact (Kd.R_reads' HO395.out).2.1); rintro e w29 ⟨rfl, hb⟩; refine ⟨_, rfl, ?_⟩; have n0_ := Aside0.mk (Kd.R_below (by (with_reducible repeat (first | apply Kd.R_alloc | apply Kd.R_drewN | apply Kd.R_drew)); exact HO395.out) hb); have n1_ := Aside0.mk (Kd.R_below (by (with_reducible repeat (first | apply Kd.R_alloc | apply Kd.R_drewN | apply Kd.R_drew)); exact HO400.out) hb); have n2_ := Aside0.mk (below_step (by repeat (first | (with_reducible first | exact HB.out | apply below_alloc | apply pw_below_drewN | apply below_drew1) | exact HB.out)) hb); clear HO395; clear HO400; clear HB; have HO395 := n0_; have HO400 := n1_; have HB := n2_; clear n0_ n1_ n2_; (try clear hb); (try clear hb2); (try clear hk); (try clear hi)) | ((with_reducible refine gate_callee (f := 17) rfl ?_); refine goesL_ (some 29) rfl rfl Try.func17 (by kernel_rfl) rfl #[.slice Ao27 t393.length co27] rfl (by (try simp only [List.map_toArray, List.map_cons, List.map_nil]); first | done | rfl | (simp only [List.length_drop, List.length_take]; rfl)) ?_; (with_reducible refine (turndownref08_Bookings.calls k _ _ t393 true _ ?side1 ?side2 A5.out).mono ?_); (case side1 => repeat (first | exact (Kd.R_reads' HO395.out).2.2 | (with_reducible refine Kd.C_alloc ?_ _) | (with_reducible refine Kd.C_drewN ?_ _) | (with_reducible refine Kd.C_drew ?_))); (case side2 => exact (Kd.R_reads' HO395.out).2.1); rintro e w30 ⟨rfl, hb⟩; refine ⟨_, rfl, ?_⟩; have n0_ := Aside0.mk (Kd.R_below (by (with_reducible repeat (first | apply Kd.R_alloc | apply Kd.R_drewN | apply Kd.R_drew)); exact HO395.out) hb); have n1_ := Aside0.mk (Kd.R_below (by (with_reducible repeat (first | apply Kd.R_alloc | apply Kd.R_drewN | apply Kd.R_drew)); exact HO400.out) hb); have n2_ := Aside0.mk (below_step (by repeat (first | (with_reducible first | exact HB.out | apply below_alloc | apply pw_below_drewN | apply below_drew1) | exact HB.out)) hb); clear HO395; clear HO400; clear HB; have HO395 := n0_; have HO400 := n1_; have HB := n2_; clear n0_ n1_ n2_; (try clear hb); (try clear hb2); (try clear hk); (try clear hi)) | ((with_reducible refine gate_callee (f := 35) rfl ?_); refine goesL_ (some 59) rfl rfl Try.func35 (by kernel_rfl) rfl #[.slice Ao27 t393.length co27] rfl (by (try simp only [List.map_toArray, List.map_cons, List.map_nil]); first | done | rfl | (simp only [List.length_drop, List.length_take]; rfl)) ?_; (with_reducible refine (turndownref08_Assign.calls k _ _ t393 t406 t407 _ ?side1 ?side2 A7.out).mono ?_); (case side1 => repeat (first | exact (Kd.R_reads' HO395.out).2.2 | (with_reducible refine Kd.C_alloc ?_ _) | (with_reducible refine Kd.C_drewN ?_ _) | (with_reducible refine Kd.C_drew ?_))); (case side2 => exact (Kd.R_reads' HO395.out).2.1); rintro e w31 ⟨v408, rfl, ho0, hb⟩; refine ⟨_, rfl, ?_⟩; have n0_ := Aside0.mk (Kd.R_below (by (with_reducible repeat (first | apply Kd.R_alloc | apply Kd.R_drewN | apply Kd.R_drew)); exact HO395.out) hb); have n1_ := Aside0.mk (Kd.R_elder' (by (with_reducible repeat (first | apply Kd.R_alloc | apply Kd.R_drewN | apply Kd.R_drew)); exact HO400.out) (Kd.R_base ho0) hb); have n2_ := Aside0.mk (Kd.R_lower (Kd.R_new' ho0 (Kd.R_lt (by (with_reducible repeat (first | apply Kd.R_alloc | apply Kd.R_drewN | apply Kd.R_drew)); exact HO400.out))) (below_size (by repeat (first | (with_reducible first | exact HB.out | apply below_alloc | apply pw_below_drewN | apply below_drew1) | exact HB.out)))); have n3_ := Aside0.mk (below_step (by repeat (first | (with_reducible first | exact HB.out | apply below_alloc | apply pw_below_drewN | apply below_drew1) | exact HB.out)) hb); clear HO395; clear HO400; clear HB; have HO395 := n0_; have HO400 := n1_; have HO409 := n2_; have HB := n3_; clear n0_ n1_ n2_ n3_; (try clear hb); (try clear hb2); (try clear hk); (try clear hi); (try clear ho0)) | ((with_reducible refine gate_callee (f := 36) rfl ?_); refine goesL_ (some 64) rfl rfl Try.func36 (by kernel_rfl) rfl #[.slice Ao27 t393.length co27] rfl (by (try simp only [List.map_toArray, List.map_cons, List.map_nil]); first | done | rfl | (simp only [List.length_drop, List.length_take]; rfl)) ?_; (with_reducible refine (turndownref08_Busiest.calls k _ _ t393 t410 t411 _ ?side1 ?side2 A8.out).mono ?_); (case side1 => repeat (first | exact (Kd.R_reads' HO395.out).2.2 | (with_reducible refine Kd.C_alloc ?_ _) | (with_reducible refine Kd.C_drewN ?_ _) | (with_reducible refine Kd.C_drew ?_))); (case side2 => exact (Kd.R_reads' HO395.out).2.1); rintro e w' ⟨rfl, ⟨nd, rfl⟩⟩; refine ⟨_, rfl, ?_⟩; obtain ⟨Ao32, co32, eo32⟩ := Kd.R_slice HO400.out; subst eo32; obtain ⟨Ao33, co33, eo33⟩ := Kd.R_slice HO409.out; subst eo33) | ((with_reducible refine gate_callee (f := 32) rfl ?_); refine goesL_ (some 69) rfl rfl Try.func32 (by kernel_rfl) rfl #[.slice Ao32 t396.length co32, .slice Ao33 t406.length co33] rfl (by (try simp only [List.map_toArray, List.map_cons, List.map_nil]); first | done | rfl | (simp only [List.length_drop, List.length_take]; rfl)) ?_; (with_reducible refine (turndownlaw08_ints.calls k _ _ t396 _ _ t406 true _ ?side1 ?side2 ?side3 ?side4 A9.out).mono ?_); (case side1 => repeat (first | exact (Kd.R_reads' HO400.out).2.2 | (with_reducible refine Kd.C_alloc ?_ _) | (with_reducible refine Kd.C_drewN ?_ _) | (with_reducible refine Kd.C_drew ?_))); (case side2 => exact (Kd.R_reads' HO400.out).2.1); (case side3 => repeat (first | exact (Kd.R_reads' HO409.out).2.2 | (with_reducible refine Kd.C_alloc ?_ _) | (with_reducible refine Kd.C_drewN ?_ _) | (with_reducible refine Kd.C_drew ?_))); (case side4 => exact (Kd.R_reads' HO409.out).2.1); rintro e w' ⟨rfl, ⟨nd, rfl⟩⟩; refine ⟨_, rfl, ?_⟩))
                go_ret
                exact ⟨by first | rfl | (simp [errW_none, errW_some] <;> rfl) | (simp [*, errW_none, errW_some] <;> rfl), by repeat (first | (with_reducible first | exact HB.out | apply below_alloc | apply pw_below_drewN | apply below_drew1) | exact HB.out)⟩
            · rw [if_neg c14] at H
              have c14b0 : (t402 == t411) = false := beq_eq_false_iff_ne.mpr c14
              have c14b1 : (t402 != t411) = true := bne_iff_ne.mpr c14
              obtain rfl := Option.some.inj H
              go_enter Try.func9, Try.ntmps9
              go_wp2_with (first | ((with_reducible refine gate_callee (f := 14) rfl ?_); refine goesL_ (some 15) rfl rfl Try.func14 (by kernel_rfl) rfl #[.slice A0 l0.length c0] rfl (by (try simp only [List.map_toArray, List.map_cons, List.map_nil]); first | done | rfl | (simp only [List.length_drop, List.length_take]; rfl)) ?_; (with_reducible refine (turndownlaw08_bookings.calls _ _ l0 t393 _ ?side1 ?side2 A2.out).mono ?_); (case side1 => repeat (first | exact HR0.out | (with_reducible refine Kd.C_alloc ?_ _) | (with_reducible refine Kd.C_drewN ?_ _) | (with_reducible refine Kd.C_drew ?_))); (case side2 => exact HC0.out); rintro e w34 ⟨v394, rfl, ho0, hb⟩; refine ⟨_, rfl, ?_⟩; have n0_ := Aside0.mk (Kd.R_lower ho0 (below_size (by repeat (first | (with_reducible first | exact HB.out | apply below_alloc | apply pw_below_drewN | apply below_drew1) | exact HB.out)))); have n1_ := Aside0.mk (below_step (by repeat (first | (with_reducible first | exact HB.out | apply below_alloc | apply pw_below_drewN | apply below_drew1) | exact HB.out)) hb); clear HB; have HO395 := n0_; have HB := n1_; clear n0_ n1_; (try clear hb); (try clear hb2); (try clear hk); (try clear hi); (try clear ho0); obtain ⟨Ao35, co35, eo35⟩ := Kd.R_slice HO395.out; subst eo35) | ((with_reducible refine gate_callee (f := 31) rfl ?_); refine goesL_ (some 18) rfl rfl Try.func31 (by kernel_rfl) rfl #[.slice Ao35 t393.length co35] rfl (by (try simp only [List.map_toArray, List.map_cons, List.map_nil]); first | done | rfl | (simp only [List.length_drop, List.length_take]; rfl)) ?_; (with_reducible refine (rooms_Assign.calls _ _ t393 t396 t397 t398 _ ?side1 ?side2 A3.out).mono ?_); (case side1 => repeat (first | exact (Kd.R_reads' HO395.out).2.2 | (with_reducible refine Kd.C_alloc ?_ _) | (with_reducible refine Kd.C_drewN ?_ _) | (with_reducible refine Kd.C_drew ?_))); (case side2 => exact (Kd.R_reads' HO395.out).2.1); rintro e w36 ⟨v399, rfl, ho0, hb⟩; refine ⟨_, rfl, ?_⟩; have n0_ := Aside0.mk (Kd.R_below (by (with_reducible repeat (first | apply Kd.R_alloc | apply Kd.R_drewN | apply Kd.R_drew)); exact HO395.out) hb); have n1_ := Aside0.mk (Kd.R_lower ho0 (below_size (by repeat (first | (with_reducible first | exact HB.out | apply below_alloc | apply pw_below_drewN | apply below_drew1) | exact HB.out)))); have n2_ := Aside0.mk (below_step (by repeat (first | (with_reducible first | exact HB.out | apply below_alloc | apply pw_below_drewN | apply below_drew1) | exact HB.out)) hb); clear HO395; clear HB; have HO395 := n0_; have HO400 := n1_; have HB := n2_; clear n0_ n1_ n2_; (try clear hb); (try clear hb2); (try clear hk); (try clear hi); (try clear ho0)) | ((with_reducible refine gate_callee (f := 34) rfl ?_); refine goesL_ (some 24) rfl rfl Try.func34 (by kernel_rfl) rfl #[.slice Ao35 t393.length co35] rfl (by (try simp only [List.map_toArray, List.map_cons, List.map_nil]); first | done | rfl | (simp only [List.length_drop, List.length_take]; rfl)) ?_; (with_reducible refine (rooms_Busiest.calls k _ _ t393 t401 t402 t403 _ ?side1 ?side2 A4.out).mono ?_); (case side1 => repeat (first | exact (Kd.R_reads' HO395.out).2.2 | (with_reducible refine Kd.C_alloc ?_ _) | (with_reducible refine Kd.C_drewN ?_ _) | (with_reducible refine Kd.C_drew ?_))); (case side2 => exact (Kd.R_reads' HO395.out).2.1); rintro e w37 ⟨rfl, hb⟩; refine ⟨_, rfl, ?_⟩; have n0_ := Aside0.mk (Kd.R_below (by (with_reducible repeat (first | apply Kd.R_alloc | apply Kd.R_drewN | apply Kd.R_drew)); exact HO395.out) hb); have n1_ := Aside0.mk (Kd.R_below (by (with_reducible repeat (first | apply Kd.R_alloc | apply Kd.R_drewN | apply Kd.R_drew)); exact HO400.out) hb); have n2_ := Aside0.mk (below_step (by repeat (first | (with_reducible first | exact HB.out | apply below_alloc | apply pw_below_drewN | apply below_drew1) | exact HB.out)) hb); clear HO395; clear HO400; clear HB; have HO395 := n0_; have HO400 := n1_; have HB := n2_; clear n0_ n1_ n2_; (try clear hb); (try clear hb2); (try clear hk); (try clear hi)) | ((with_reducible refine gate_callee (f := 17) rfl ?_); refine goesL_ (some 29) rfl rfl Try.func17 (by kernel_rfl) rfl #[.slice Ao35 t393.length co35] rfl (by (try simp only [List.map_toArray, List.map_cons, List.map_nil]); first | done | rfl | (simp only [List.length_drop, List.length_take]; rfl)) ?_; (with_reducible refine (turndownref08_Bookings.calls k _ _ t393 true _ ?side1 ?side2 A5.out).mono ?_); (case side1 => repeat (first | exact (Kd.R_reads' HO395.out).2.2 | (with_reducible refine Kd.C_alloc ?_ _) | (with_reducible refine Kd.C_drewN ?_ _) | (with_reducible refine Kd.C_drew ?_))); (case side2 => exact (Kd.R_reads' HO395.out).2.1); rintro e w38 ⟨rfl, hb⟩; refine ⟨_, rfl, ?_⟩; have n0_ := Aside0.mk (Kd.R_below (by (with_reducible repeat (first | apply Kd.R_alloc | apply Kd.R_drewN | apply Kd.R_drew)); exact HO395.out) hb); have n1_ := Aside0.mk (Kd.R_below (by (with_reducible repeat (first | apply Kd.R_alloc | apply Kd.R_drewN | apply Kd.R_drew)); exact HO400.out) hb); have n2_ := Aside0.mk (below_step (by repeat (first | (with_reducible first | exact HB.out | apply below_alloc | apply pw_below_drewN | apply below_drew1) | exact HB.out)) hb); clear HO395; clear HO400; clear HB; have HO395 := n0_; have HO400 := n1_; have HB := n2_; clear n0_ n1_ n2_; (try clear hb); (try clear hb2); (try clear hk); (try clear hi)) | ((with_reducible refine gate_callee (f := 35) rfl ?_); refine goesL_ (some 59) rfl rfl Try.func35 (by kernel_rfl) rfl #[.slice Ao35 t393.length co35] rfl (by (try simp only [List.map_toArray, List.map_cons, List.map_nil]); first | done | rfl | (simp only [List.length_drop, List.length_take]; rfl)) ?_; (with_reducible refine (turndownref08_Assign.calls k _ _ t393 t406 t407 _ ?side1 ?side2 A7.out).mono ?_); (case side1 => repeat (first | exact (Kd.R_reads' HO395.out).2.2 | (with_reducible refine Kd.C_alloc ?_ _) | (with_reducible refine Kd.C_drewN ?_ _) | (with_reducible refine Kd.C_drew ?_))); (case side2 => exact (Kd.R_reads' HO395.out).2.1); rintro e w39 ⟨v408, rfl, ho0, hb⟩; refine ⟨_, rfl, ?_⟩; have n0_ := Aside0.mk (Kd.R_below (by (with_reducible repeat (first | apply Kd.R_alloc | apply Kd.R_drewN | apply Kd.R_drew)); exact HO395.out) hb); have n1_ := Aside0.mk (Kd.R_elder' (by (with_reducible repeat (first | apply Kd.R_alloc | apply Kd.R_drewN | apply Kd.R_drew)); exact HO400.out) (Kd.R_base ho0) hb); have n2_ := Aside0.mk (Kd.R_lower (Kd.R_new' ho0 (Kd.R_lt (by (with_reducible repeat (first | apply Kd.R_alloc | apply Kd.R_drewN | apply Kd.R_drew)); exact HO400.out))) (below_size (by repeat (first | (with_reducible first | exact HB.out | apply below_alloc | apply pw_below_drewN | apply below_drew1) | exact HB.out)))); have n3_ := Aside0.mk (below_step (by repeat (first | (with_reducible first | exact HB.out | apply below_alloc | apply pw_below_drewN | apply below_drew1) | exact HB.out)) hb); clear HO395; clear HO400; clear HB; have HO395 := n0_; have HO400 := n1_; have HO409 := n2_; have HB := n3_; clear n0_ n1_ n2_ n3_; (try clear hb); (try clear hb2); (try clear hk); (try clear hi); (try clear ho0)) | ((with_reducible refine gate_callee (f := 36) rfl ?_); refine goesL_ (some 64) rfl rfl Try.func36 (by kernel_rfl) rfl #[.slice Ao35 t393.length co35] rfl (by (try simp only [List.map_toArray, List.map_cons, List.map_nil]); first | done | rfl | (simp only [List.length_drop, List.length_take]; rfl)) ?_; (with_reducible refine (turndownref08_Busiest.calls k _ _ t393 t410 t411 _ ?side1 ?side2 A8.out).mono ?_); (case side1 => repeat (first | exact (Kd.R_reads' HO395.out).2.2 | (with_reducible refine Kd.C_alloc ?_ _) | (with_reducible refine Kd.C_drewN ?_ _) | (with_reducible refine Kd.C_drew ?_))); (case side2 => exact (Kd.R_reads' HO395.out).2.1); rintro e w' ⟨rfl, ⟨nd, rfl⟩⟩; refine ⟨_, rfl, ?_⟩; obtain ⟨Ao40, co40, eo40⟩ := Kd.R_slice HO400.out; subst eo40; obtain ⟨Ao41, co41, eo41⟩ := Kd.R_slice HO409.out; subst eo41) | ((with_reducible refine gate_callee (f := 32) rfl ?_); refine goesL_ (some 69) rfl rfl Try.func32 (by kernel_rfl) rfl #[.slice Ao40 t396.length co40, .slice Ao41 t406.length co41] rfl (by (try simp only [List.map_toArray, List.map_cons, List.map_nil]); first | done | rfl | (simp only [List.length_drop, List.length_take]; rfl)) ?_; (with_reducible refine (turndownlaw08_ints.calls k _ _ t396 _ _ t406 true _ ?side1 ?side2 ?side3 ?side4 A9.out).mono ?_); (case side1 => repeat (first | exact (Kd.R_reads' HO400.out).2.2 | (with_reducible refine Kd.C_alloc ?_ _) | (with_reducible refine Kd.C_drewN ?_ _) | (with_reducible refine Kd.C_drew ?_))); (case side2 => exact (Kd.R_reads' HO400.out).2.1); (case side3 => repeat (first | exact (Kd.R_reads' HO409.out).2.2 | (with_reducible refine Kd.C_alloc ?_ _) | (with_reducible refine Kd.C_drewN ?_ _) | (with_reducible refine Kd.C_drew ?_))); (case side4 => exact (Kd.R_reads' HO409.out).2.1); rintro e w' ⟨rfl, ⟨nd, rfl⟩⟩; refine ⟨_, rfl, ?_⟩))
              go_ret
              exact ⟨by first | rfl | (simp [errW_none, errW_some] <;> rfl) | (simp [*, errW_none, errW_some] <;> rfl), by repeat (first | (with_reducible first | exact HB.out | apply below_alloc | apply pw_below_drewN | apply below_drew1) | exact HB.out)⟩
          · rw [if_neg c13] at H
            have c13b0 : (t401 == t410) = false := beq_eq_false_iff_ne.mpr c13
            have c13b1 : (t401 != t410) = true := bne_iff_ne.mpr c13
            obtain rfl := Option.some.inj H
            go_enter Try.func9, Try.ntmps9
            go_wp2_with (first | ((with_reducible refine gate_callee (f := 14) rfl ?_); refine goesL_ (some 15) rfl rfl Try.func14 (by kernel_rfl) rfl #[.slice A0 l0.length c0] rfl (by (try simp only [List.map_toArray, List.map_cons, List.map_nil]); first | done | rfl | (simp only [List.length_drop, List.length_take]; rfl)) ?_; (with_reducible refine (turndownlaw08_bookings.calls _ _ l0 t393 _ ?side1 ?side2 A2.out).mono ?_); (case side1 => repeat (first | exact HR0.out | (with_reducible refine Kd.C_alloc ?_ _) | (with_reducible refine Kd.C_drewN ?_ _) | (with_reducible refine Kd.C_drew ?_))); (case side2 => exact HC0.out); rintro e w42 ⟨v394, rfl, ho0, hb⟩; refine ⟨_, rfl, ?_⟩; have n0_ := Aside0.mk (Kd.R_lower ho0 (below_size (by repeat (first | (with_reducible first | exact HB.out | apply below_alloc | apply pw_below_drewN | apply below_drew1) | exact HB.out)))); have n1_ := Aside0.mk (below_step (by repeat (first | (with_reducible first | exact HB.out | apply below_alloc | apply pw_below_drewN | apply below_drew1) | exact HB.out)) hb); clear HB; have HO395 := n0_; have HB := n1_; clear n0_ n1_; (try clear hb); (try clear hb2); (try clear hk); (try clear hi); (try clear ho0); obtain ⟨Ao43, co43, eo43⟩ := Kd.R_slice HO395.out; subst eo43) | ((with_reducible refine gate_callee (f := 31) rfl ?_); refine goesL_ (some 18) rfl rfl Try.func31 (by kernel_rfl) rfl #[.slice Ao43 t393.length co43] rfl (by (try simp only [List.map_toArray, List.map_cons, List.map_nil]); first | done | rfl | (simp only [List.length_drop, List.length_take]; rfl)) ?_; (with_reducible refine (rooms_Assign.calls _ _ t393 t396 t397 t398 _ ?side1 ?side2 A3.out).mono ?_); (case side1 => repeat (first | exact (Kd.R_reads' HO395.out).2.2 | (with_reducible refine Kd.C_alloc ?_ _) | (with_reducible refine Kd.C_drewN ?_ _) | (with_reducible refine Kd.C_drew ?_))); (case side2 => exact (Kd.R_reads' HO395.out).2.1); rintro e w44 ⟨v399, rfl, ho0, hb⟩; refine ⟨_, rfl, ?_⟩; have n0_ := Aside0.mk (Kd.R_below (by (with_reducible repeat (first | apply Kd.R_alloc | apply Kd.R_drewN | apply Kd.R_drew)); exact HO395.out) hb); have n1_ := Aside0.mk (Kd.R_lower ho0 (below_size (by repeat (first | (with_reducible first | exact HB.out | apply below_alloc | apply pw_below_drewN | apply below_drew1) | exact HB.out)))); have n2_ := Aside0.mk (below_step (by repeat (first | (with_reducible first | exact HB.out | apply below_alloc | apply pw_below_drewN | apply below_drew1) | exact HB.out)) hb); clear HO395; clear HB; have HO395 := n0_; have HO400 := n1_; have HB := n2_; clear n0_ n1_ n2_; (try clear hb); (try clear hb2); (try clear hk); (try clear hi); (try clear ho0)) | ((with_reducible refine gate_callee (f := 34) rfl ?_); refine goesL_ (some 24) rfl rfl Try.func34 (by kernel_rfl) rfl #[.slice Ao43 t393.length co43] rfl (by (try simp only [List.map_toArray, List.map_cons, List.map_nil]); first | done | rfl | (simp only [List.length_drop, List.length_take]; rfl)) ?_; (with_reducible refine (rooms_Busiest.calls k _ _ t393 t401 t402 t403 _ ?side1 ?side2 A4.out).mono ?_); (case side1 => repeat (first | exact (Kd.R_reads' HO395.out).2.2 | (with_reducible refine Kd.C_alloc ?_ _) | (with_reducible refine Kd.C_drewN ?_ _) | (with_reducible refine Kd.C_drew ?_))); (case side2 => exact (Kd.R_reads' HO395.out).2.1); rintro e w45 ⟨rfl, hb⟩; refine ⟨_, rfl, ?_⟩; have n0_ := Aside0.mk (Kd.R_below (by (with_reducible repeat (first | apply Kd.R_alloc | apply Kd.R_drewN | apply Kd.R_drew)); exact HO395.out) hb); have n1_ := Aside0.mk (Kd.R_below (by (with_reducible repeat (first | apply Kd.R_alloc | apply Kd.R_drewN | apply Kd.R_drew)); exact HO400.out) hb); have n2_ := Aside0.mk (below_step (by repeat (first | (with_reducible first | exact HB.out | apply below_alloc | apply pw_below_drewN | apply below_drew1) | exact HB.out)) hb); clear HO395; clear HO400; clear HB; have HO395 := n0_; have HO400 := n1_; have HB := n2_; clear n0_ n1_ n2_; (try clear hb); (try clear hb2); (try clear hk); (try clear hi)) | ((with_reducible refine gate_callee (f := 17) rfl ?_); refine goesL_ (some 29) rfl rfl Try.func17 (by kernel_rfl) rfl #[.slice Ao43 t393.length co43] rfl (by (try simp only [List.map_toArray, List.map_cons, List.map_nil]); first | done | rfl | (simp only [List.length_drop, List.length_take]; rfl)) ?_; (with_reducible refine (turndownref08_Bookings.calls k _ _ t393 true _ ?side1 ?side2 A5.out).mono ?_); (case side1 => repeat (first | exact (Kd.R_reads' HO395.out).2.2 | (with_reducible refine Kd.C_alloc ?_ _) | (with_reducible refine Kd.C_drewN ?_ _) | (with_reducible refine Kd.C_drew ?_))); (case side2 => exact (Kd.R_reads' HO395.out).2.1); rintro e w46 ⟨rfl, hb⟩; refine ⟨_, rfl, ?_⟩; have n0_ := Aside0.mk (Kd.R_below (by (with_reducible repeat (first | apply Kd.R_alloc | apply Kd.R_drewN | apply Kd.R_drew)); exact HO395.out) hb); have n1_ := Aside0.mk (Kd.R_below (by (with_reducible repeat (first | apply Kd.R_alloc | apply Kd.R_drewN | apply Kd.R_drew)); exact HO400.out) hb); have n2_ := Aside0.mk (below_step (by repeat (first | (with_reducible first | exact HB.out | apply below_alloc | apply pw_below_drewN | apply below_drew1) | exact HB.out)) hb); clear HO395; clear HO400; clear HB; have HO395 := n0_; have HO400 := n1_; have HB := n2_; clear n0_ n1_ n2_; (try clear hb); (try clear hb2); (try clear hk); (try clear hi)) | ((with_reducible refine gate_callee (f := 35) rfl ?_); refine goesL_ (some 59) rfl rfl Try.func35 (by kernel_rfl) rfl #[.slice Ao43 t393.length co43] rfl (by (try simp only [List.map_toArray, List.map_cons, List.map_nil]); first | done | rfl | (simp only [List.length_drop, List.length_take]; rfl)) ?_; (with_reducible refine (turndownref08_Assign.calls k _ _ t393 t406 t407 _ ?side1 ?side2 A7.out).mono ?_); (case side1 => repeat (first | exact (Kd.R_reads' HO395.out).2.2 | (with_reducible refine Kd.C_alloc ?_ _) | (with_reducible refine Kd.C_drewN ?_ _) | (with_reducible refine Kd.C_drew ?_))); (case side2 => exact (Kd.R_reads' HO395.out).2.1); rintro e w47 ⟨v408, rfl, ho0, hb⟩; refine ⟨_, rfl, ?_⟩; have n0_ := Aside0.mk (Kd.R_below (by (with_reducible repeat (first | apply Kd.R_alloc | apply Kd.R_drewN | apply Kd.R_drew)); exact HO395.out) hb); have n1_ := Aside0.mk (Kd.R_elder' (by (with_reducible repeat (first | apply Kd.R_alloc | apply Kd.R_drewN | apply Kd.R_drew)); exact HO400.out) (Kd.R_base ho0) hb); have n2_ := Aside0.mk (Kd.R_lower (Kd.R_new' ho0 (Kd.R_lt (by (with_reducible repeat (first | apply Kd.R_alloc | apply Kd.R_drewN | apply Kd.R_drew)); exact HO400.out))) (below_size (by repeat (first | (with_reducible first | exact HB.out | apply below_alloc | apply pw_below_drewN | apply below_drew1) | exact HB.out)))); have n3_ := Aside0.mk (below_step (by repeat (first | (with_reducible first | exact HB.out | apply below_alloc | apply pw_below_drewN | apply below_drew1) | exact HB.out)) hb); clear HO395; clear HO400; clear HB; have HO395 := n0_; have HO400 := n1_; have HO409 := n2_; have HB := n3_; clear n0_ n1_ n2_ n3_; (try clear hb); (try clear hb2); (try clear hk); (try clear hi); (try clear ho0)) | ((with_reducible refine gate_callee (f := 36) rfl ?_); refine goesL_ (some 64) rfl rfl Try.func36 (by kernel_rfl) rfl #[.slice Ao43 t393.length co43] rfl (by (try simp only [List.map_toArray, List.map_cons, List.map_nil]); first | done | rfl | (simp only [List.length_drop, List.length_take]; rfl)) ?_; (with_reducible refine (turndownref08_Busiest.calls k _ _ t393 t410 t411 _ ?side1 ?side2 A8.out).mono ?_); (case side1 => repeat (first | exact (Kd.R_reads' HO395.out).2.2 | (with_reducible refine Kd.C_alloc ?_ _) | (with_reducible refine Kd.C_drewN ?_ _) | (with_reducible refine Kd.C_drew ?_))); (case side2 => exact (Kd.R_reads' HO395.out).2.1); rintro e w' ⟨rfl, ⟨nd, rfl⟩⟩; refine ⟨_, rfl, ?_⟩; obtain ⟨Ao48, co48, eo48⟩ := Kd.R_slice HO400.out; subst eo48; obtain ⟨Ao49, co49, eo49⟩ := Kd.R_slice HO409.out; subst eo49) | ((with_reducible refine gate_callee (f := 32) rfl ?_); refine goesL_ (some 69) rfl rfl Try.func32 (by kernel_rfl) rfl #[.slice Ao48 t396.length co48, .slice Ao49 t406.length co49] rfl (by (try simp only [List.map_toArray, List.map_cons, List.map_nil]); first | done | rfl | (simp only [List.length_drop, List.length_take]; rfl)) ?_; (with_reducible refine (turndownlaw08_ints.calls k _ _ t396 _ _ t406 true _ ?side1 ?side2 ?side3 ?side4 A9.out).mono ?_); (case side1 => repeat (first | exact (Kd.R_reads' HO400.out).2.2 | (with_reducible refine Kd.C_alloc ?_ _) | (with_reducible refine Kd.C_drewN ?_ _) | (with_reducible refine Kd.C_drew ?_))); (case side2 => exact (Kd.R_reads' HO400.out).2.1); (case side3 => repeat (first | exact (Kd.R_reads' HO409.out).2.2 | (with_reducible refine Kd.C_alloc ?_ _) | (with_reducible refine Kd.C_drewN ?_ _) | (with_reducible refine Kd.C_drew ?_))); (case side4 => exact (Kd.R_reads' HO409.out).2.1); rintro e w' ⟨rfl, ⟨nd, rfl⟩⟩; refine ⟨_, rfl, ?_⟩))
            go_ret
            exact ⟨by first | rfl | (simp [errW_none, errW_some] <;> rfl) | (simp [*, errW_none, errW_some] <;> rfl), by repeat (first | (with_reducible first | exact HB.out | apply below_alloc | apply pw_below_drewN | apply below_drew1) | exact HB.out)⟩
        · rw [if_neg c12] at H
          have c12b0 : (t398 == 0) = false := beq_eq_false_iff_ne.mpr c12
          have c12b1 : (t398 != 0) = true := bne_iff_ne.mpr c12
          obtain rfl := Option.some.inj H
          go_enter Try.func9, Try.ntmps9
          go_wp2_with (first | ((with_reducible refine gate_callee (f := 14) rfl ?_); refine goesL_ (some 15) rfl rfl Try.func14 (by kernel_rfl) rfl #[.slice A0 l0.length c0] rfl (by (try simp only [List.map_toArray, List.map_cons, List.map_nil]); first | done | rfl | (simp only [List.length_drop, List.length_take]; rfl)) ?_; (with_reducible refine (turndownlaw08_bookings.calls _ _ l0 t393 _ ?side1 ?side2 A2.out).mono ?_); (case side1 => repeat (first | exact HR0.out | (with_reducible refine Kd.C_alloc ?_ _) | (with_reducible refine Kd.C_drewN ?_ _) | (with_reducible refine Kd.C_drew ?_))); (case side2 => exact HC0.out); rintro e w50 ⟨v394, rfl, ho0, hb⟩; refine ⟨_, rfl, ?_⟩; have n0_ := Aside0.mk (Kd.R_lower ho0 (below_size (by repeat (first | (with_reducible first | exact HB.out | apply below_alloc | apply pw_below_drewN | apply below_drew1) | exact HB.out)))); have n1_ := Aside0.mk (below_step (by repeat (first | (with_reducible first | exact HB.out | apply below_alloc | apply pw_below_drewN | apply below_drew1) | exact HB.out)) hb); clear HB; have HO395 := n0_; have HB := n1_; clear n0_ n1_; (try clear hb); (try clear hb2); (try clear hk); (try clear hi); (try clear ho0); obtain ⟨Ao51, co51, eo51⟩ := Kd.R_slice HO395.out; subst eo51) | ((with_reducible refine gate_callee (f := 31) rfl ?_); refine goesL_ (some 18) rfl rfl Try.func31 (by kernel_rfl) rfl #[.slice Ao51 t393.length co51] rfl (by (try simp only [List.map_toArray, List.map_cons, List.map_nil]); first | done | rfl | (simp only [List.length_drop, List.length_take]; rfl)) ?_; (with_reducible refine (rooms_Assign.calls _ _ t393 t396 t397 t398 _ ?side1 ?side2 A3.out).mono ?_); (case side1 => repeat (first | exact (Kd.R_reads' HO395.out).2.2 | (with_reducible refine Kd.C_alloc ?_ _) | (with_reducible refine Kd.C_drewN ?_ _) | (with_reducible refine Kd.C_drew ?_))); (case side2 => exact (Kd.R_reads' HO395.out).2.1); rintro e w52 ⟨v399, rfl, ho0, hb⟩; refine ⟨_, rfl, ?_⟩; have n0_ := Aside0.mk (Kd.R_below (by (with_reducible repeat (first | apply Kd.R_alloc | apply Kd.R_drewN | apply Kd.R_drew)); exact HO395.out) hb); have n1_ := Aside0.mk (Kd.R_lower ho0 (below_size (by repeat (first | (with_reducible first | exact HB.out | apply below_alloc | apply pw_below_drewN | apply below_drew1) | exact HB.out)))); have n2_ := Aside0.mk (below_step (by repeat (first | (with_reducible first | exact HB.out | apply below_alloc | apply pw_below_drewN | apply below_drew1) | exact HB.out)) hb); clear HO395; clear HB; have HO395 := n0_; have HO400 := n1_; have HB := n2_; clear n0_ n1_ n2_; (try clear hb); (try clear hb2); (try clear hk); (try clear hi); (try clear ho0)) | ((with_reducible refine gate_callee (f := 34) rfl ?_); refine goesL_ (some 24) rfl rfl Try.func34 (by kernel_rfl) rfl #[.slice Ao51 t393.length co51] rfl (by (try simp only [List.map_toArray, List.map_cons, List.map_nil]); first | done | rfl | (simp only [List.length_drop, List.length_take]; rfl)) ?_; (with_reducible refine (rooms_Busiest.calls k _ _ t393 t401 t402 t403 _ ?side1 ?side2 A4.out).mono ?_); (case side1 => repeat (first | exact (Kd.R_reads' HO395.out).2.2 | (with_reducible refine Kd.C_alloc ?_ _) | (with_reducible refine Kd.C_drewN ?_ _) | (with_reducible refine Kd.C_drew ?_))); (case side2 => exact (Kd.R_reads' HO395.out).2.1); rintro e w53 ⟨rfl, hb⟩; refine ⟨_, rfl, ?_⟩; have n0_ := Aside0.mk (Kd.R_below (by (with_reducible repeat (first | apply Kd.R_alloc | apply Kd.R_drewN | apply Kd.R_drew)); exact HO395.out) hb); have n1_ := Aside0.mk (Kd.R_below (by (with_reducible repeat (first | apply Kd.R_alloc | apply Kd.R_drewN | apply Kd.R_drew)); exact HO400.out) hb); have n2_ := Aside0.mk (below_step (by repeat (first | (with_reducible first | exact HB.out | apply below_alloc | apply pw_below_drewN | apply below_drew1) | exact HB.out)) hb); clear HO395; clear HO400; clear HB; have HO395 := n0_; have HO400 := n1_; have HB := n2_; clear n0_ n1_ n2_; (try clear hb); (try clear hb2); (try clear hk); (try clear hi)) | ((with_reducible refine gate_callee (f := 17) rfl ?_); refine goesL_ (some 29) rfl rfl Try.func17 (by kernel_rfl) rfl #[.slice Ao51 t393.length co51] rfl (by (try simp only [List.map_toArray, List.map_cons, List.map_nil]); first | done | rfl | (simp only [List.length_drop, List.length_take]; rfl)) ?_; (with_reducible refine (turndownref08_Bookings.calls k _ _ t393 true _ ?side1 ?side2 A5.out).mono ?_); (case side1 => repeat (first | exact (Kd.R_reads' HO395.out).2.2 | (with_reducible refine Kd.C_alloc ?_ _) | (with_reducible refine Kd.C_drewN ?_ _) | (with_reducible refine Kd.C_drew ?_))); (case side2 => exact (Kd.R_reads' HO395.out).2.1); rintro e w54 ⟨rfl, hb⟩; refine ⟨_, rfl, ?_⟩; have n0_ := Aside0.mk (Kd.R_below (by (with_reducible repeat (first | apply Kd.R_alloc | apply Kd.R_drewN | apply Kd.R_drew)); exact HO395.out) hb); have n1_ := Aside0.mk (Kd.R_below (by (with_reducible repeat (first | apply Kd.R_alloc | apply Kd.R_drewN | apply Kd.R_drew)); exact HO400.out) hb); have n2_ := Aside0.mk (below_step (by repeat (first | (with_reducible first | exact HB.out | apply below_alloc | apply pw_below_drewN | apply below_drew1) | exact HB.out)) hb); clear HO395; clear HO400; clear HB; have HO395 := n0_; have HO400 := n1_; have HB := n2_; clear n0_ n1_ n2_; (try clear hb); (try clear hb2); (try clear hk); (try clear hi)) | ((with_reducible refine gate_callee (f := 35) rfl ?_); refine goesL_ (some 59) rfl rfl Try.func35 (by kernel_rfl) rfl #[.slice Ao51 t393.length co51] rfl (by (try simp only [List.map_toArray, List.map_cons, List.map_nil]); first | done | rfl | (simp only [List.length_drop, List.length_take]; rfl)) ?_; (with_reducible refine (turndownref08_Assign.calls k _ _ t393 t406 t407 _ ?side1 ?side2 A7.out).mono ?_); (case side1 => repeat (first | exact (Kd.R_reads' HO395.out).2.2 | (with_reducible refine Kd.C_alloc ?_ _) | (with_reducible refine Kd.C_drewN ?_ _) | (with_reducible refine Kd.C_drew ?_))); (case side2 => exact (Kd.R_reads' HO395.out).2.1); rintro e w55 ⟨v408, rfl, ho0, hb⟩; refine ⟨_, rfl, ?_⟩; have n0_ := Aside0.mk (Kd.R_below (by (with_reducible repeat (first | apply Kd.R_alloc | apply Kd.R_drewN | apply Kd.R_drew)); exact HO395.out) hb); have n1_ := Aside0.mk (Kd.R_elder' (by (with_reducible repeat (first | apply Kd.R_alloc | apply Kd.R_drewN | apply Kd.R_drew)); exact HO400.out) (Kd.R_base ho0) hb); have n2_ := Aside0.mk (Kd.R_lower (Kd.R_new' ho0 (Kd.R_lt (by (with_reducible repeat (first | apply Kd.R_alloc | apply Kd.R_drewN | apply Kd.R_drew)); exact HO400.out))) (below_size (by repeat (first | (with_reducible first | exact HB.out | apply below_alloc | apply pw_below_drewN | apply below_drew1) | exact HB.out)))); have n3_ := Aside0.mk (below_step (by repeat (first | (with_reducible first | exact HB.out | apply below_alloc | apply pw_below_drewN | apply below_drew1) | exact HB.out)) hb); clear HO395; clear HO400; clear HB; have HO395 := n0_; have HO400 := n1_; have HO409 := n2_; have HB := n3_; clear n0_ n1_ n2_ n3_; (try clear hb); (try clear hb2); (try clear hk); (try clear hi); (try clear ho0)) | ((with_reducible refine gate_callee (f := 36) rfl ?_); refine goesL_ (some 64) rfl rfl Try.func36 (by kernel_rfl) rfl #[.slice Ao51 t393.length co51] rfl (by (try simp only [List.map_toArray, List.map_cons, List.map_nil]); first | done | rfl | (simp only [List.length_drop, List.length_take]; rfl)) ?_; (with_reducible refine (turndownref08_Busiest.calls k _ _ t393 t410 t411 _ ?side1 ?side2 A8.out).mono ?_); (case side1 => repeat (first | exact (Kd.R_reads' HO395.out).2.2 | (with_reducible refine Kd.C_alloc ?_ _) | (with_reducible refine Kd.C_drewN ?_ _) | (with_reducible refine Kd.C_drew ?_))); (case side2 => exact (Kd.R_reads' HO395.out).2.1); rintro e w' ⟨rfl, ⟨nd, rfl⟩⟩; refine ⟨_, rfl, ?_⟩; obtain ⟨Ao56, co56, eo56⟩ := Kd.R_slice HO400.out; subst eo56; obtain ⟨Ao57, co57, eo57⟩ := Kd.R_slice HO409.out; subst eo57) | ((with_reducible refine gate_callee (f := 32) rfl ?_); refine goesL_ (some 69) rfl rfl Try.func32 (by kernel_rfl) rfl #[.slice Ao56 t396.length co56, .slice Ao57 t406.length co57] rfl (by (try simp only [List.map_toArray, List.map_cons, List.map_nil]); first | done | rfl | (simp only [List.length_drop, List.length_take]; rfl)) ?_; (with_reducible refine (turndownlaw08_ints.calls k _ _ t396 _ _ t406 true _ ?side1 ?side2 ?side3 ?side4 A9.out).mono ?_); (case side1 => repeat (first | exact (Kd.R_reads' HO400.out).2.2 | (with_reducible refine Kd.C_alloc ?_ _) | (with_reducible refine Kd.C_drewN ?_ _) | (with_reducible refine Kd.C_drew ?_))); (case side2 => exact (Kd.R_reads' HO400.out).2.1); (case side3 => repeat (first | exact (Kd.R_reads' HO409.out).2.2 | (with_reducible refine Kd.C_alloc ?_ _) | (with_reducible refine Kd.C_drewN ?_ _) | (with_reducible refine Kd.C_drew ?_))); (case side4 => exact (Kd.R_reads' HO409.out).2.1); rintro e w' ⟨rfl, ⟨nd, rfl⟩⟩; refine ⟨_, rfl, ?_⟩))
          go_ret
          exact ⟨by first | rfl | (simp [errW_none, errW_some] <;> rfl) | (simp [*, errW_none, errW_some] <;> rfl), by repeat (first | (with_reducible first | exact HB.out | apply below_alloc | apply pw_below_drewN | apply below_drew1) | exact HB.out)⟩
      · rw [if_neg c11] at H
        have c11b0 : (t397 == t407) = false := beq_eq_false_iff_ne.mpr c11
        have c11b1 : (t397 != t407) = true := bne_iff_ne.mpr c11
        obtain rfl := Option.some.inj H
        go_enter Try.func9, Try.ntmps9
        go_wp2_with (first | ((with_reducible refine gate_callee (f := 14) rfl ?_); refine goesL_ (some 15) rfl rfl Try.func14 (by kernel_rfl) rfl #[.slice A0 l0.length c0] rfl (by (try simp only [List.map_toArray, List.map_cons, List.map_nil]); first | done | rfl | (simp only [List.length_drop, List.length_take]; rfl)) ?_; (with_reducible refine (turndownlaw08_bookings.calls _ _ l0 t393 _ ?side1 ?side2 A2.out).mono ?_); (case side1 => repeat (first | exact HR0.out | (with_reducible refine Kd.C_alloc ?_ _) | (with_reducible refine Kd.C_drewN ?_ _) | (with_reducible refine Kd.C_drew ?_))); (case side2 => exact HC0.out); rintro e w58 ⟨v394, rfl, ho0, hb⟩; refine ⟨_, rfl, ?_⟩; have n0_ := Aside0.mk (Kd.R_lower ho0 (below_size (by repeat (first | (with_reducible first | exact HB.out | apply below_alloc | apply pw_below_drewN | apply below_drew1) | exact HB.out)))); have n1_ := Aside0.mk (below_step (by repeat (first | (with_reducible first | exact HB.out | apply below_alloc | apply pw_below_drewN | apply below_drew1) | exact HB.out)) hb); clear HB; have HO395 := n0_; have HB := n1_; clear n0_ n1_; (try clear hb); (try clear hb2); (try clear hk); (try clear hi); (try clear ho0); obtain ⟨Ao59, co59, eo59⟩ := Kd.R_slice HO395.out; subst eo59) | ((with_reducible refine gate_callee (f := 31) rfl ?_); refine goesL_ (some 18) rfl rfl Try.func31 (by kernel_rfl) rfl #[.slice Ao59 t393.length co59] rfl (by (try simp only [List.map_toArray, List.map_cons, List.map_nil]); first | done | rfl | (simp only [List.length_drop, List.length_take]; rfl)) ?_; (with_reducible refine (rooms_Assign.calls _ _ t393 t396 t397 t398 _ ?side1 ?side2 A3.out).mono ?_); (case side1 => repeat (first | exact (Kd.R_reads' HO395.out).2.2 | (with_reducible refine Kd.C_alloc ?_ _) | (with_reducible refine Kd.C_drewN ?_ _) | (with_reducible refine Kd.C_drew ?_))); (case side2 => exact (Kd.R_reads' HO395.out).2.1); rintro e w60 ⟨v399, rfl, ho0, hb⟩; refine ⟨_, rfl, ?_⟩; have n0_ := Aside0.mk (Kd.R_below (by (with_reducible repeat (first | apply Kd.R_alloc | apply Kd.R_drewN | apply Kd.R_drew)); exact HO395.out) hb); have n1_ := Aside0.mk (Kd.R_lower ho0 (below_size (by repeat (first | (with_reducible first | exact HB.out | apply below_alloc | apply pw_below_drewN | apply below_drew1) | exact HB.out)))); have n2_ := Aside0.mk (below_step (by repeat (first | (with_reducible first | exact HB.out | apply below_alloc | apply pw_below_drewN | apply below_drew1) | exact HB.out)) hb); clear HO395; clear HB; have HO395 := n0_; have HO400 := n1_; have HB := n2_; clear n0_ n1_ n2_; (try clear hb); (try clear hb2); (try clear hk); (try clear hi); (try clear ho0)) | ((with_reducible refine gate_callee (f := 34) rfl ?_); refine goesL_ (some 24) rfl rfl Try.func34 (by kernel_rfl) rfl #[.slice Ao59 t393.length co59] rfl (by (try simp only [List.map_toArray, List.map_cons, List.map_nil]); first | done | rfl | (simp only [List.length_drop, List.length_take]; rfl)) ?_; (with_reducible refine (rooms_Busiest.calls k _ _ t393 t401 t402 t403 _ ?side1 ?side2 A4.out).mono ?_); (case side1 => repeat (first | exact (Kd.R_reads' HO395.out).2.2 | (with_reducible refine Kd.C_alloc ?_ _) | (with_reducible refine Kd.C_drewN ?_ _) | (with_reducible refine Kd.C_drew ?_))); (case side2 => exact (Kd.R_reads' HO395.out).2.1); rintro e w61 ⟨rfl, hb⟩; refine ⟨_, rfl, ?_⟩; have n0_ := Aside0.mk (Kd.R_below (by (with_reducible repeat (first | apply Kd.R_alloc | apply Kd.R_drewN | apply Kd.R_drew)); exact HO395.out) hb); have n1_ := Aside0.mk (Kd.R_below (by (with_reducible repeat (first | apply Kd.R_alloc | apply Kd.R_drewN | apply Kd.R_drew)); exact HO400.out) hb); have n2_ := Aside0.mk (below_step (by repeat (first | (with_reducible first | exact HB.out | apply below_alloc | apply pw_below_drewN | apply below_drew1) | exact HB.out)) hb); clear HO395; clear HO400; clear HB; have HO395 := n0_; have HO400 := n1_; have HB := n2_; clear n0_ n1_ n2_; (try clear hb); (try clear hb2); (try clear hk); (try clear hi)) | ((with_reducible refine gate_callee (f := 17) rfl ?_); refine goesL_ (some 29) rfl rfl Try.func17 (by kernel_rfl) rfl #[.slice Ao59 t393.length co59] rfl (by (try simp only [List.map_toArray, List.map_cons, List.map_nil]); first | done | rfl | (simp only [List.length_drop, List.length_take]; rfl)) ?_; (with_reducible refine (turndownref08_Bookings.calls k _ _ t393 true _ ?side1 ?side2 A5.out).mono ?_); (case side1 => repeat (first | exact (Kd.R_reads' HO395.out).2.2 | (with_reducible refine Kd.C_alloc ?_ _) | (with_reducible refine Kd.C_drewN ?_ _) | (with_reducible refine Kd.C_drew ?_))); (case side2 => exact (Kd.R_reads' HO395.out).2.1); rintro e w62 ⟨rfl, hb⟩; refine ⟨_, rfl, ?_⟩; have n0_ := Aside0.mk (Kd.R_below (by (with_reducible repeat (first | apply Kd.R_alloc | apply Kd.R_drewN | apply Kd.R_drew)); exact HO395.out) hb); have n1_ := Aside0.mk (Kd.R_below (by (with_reducible repeat (first | apply Kd.R_alloc | apply Kd.R_drewN | apply Kd.R_drew)); exact HO400.out) hb); have n2_ := Aside0.mk (below_step (by repeat (first | (with_reducible first | exact HB.out | apply below_alloc | apply pw_below_drewN | apply below_drew1) | exact HB.out)) hb); clear HO395; clear HO400; clear HB; have HO395 := n0_; have HO400 := n1_; have HB := n2_; clear n0_ n1_ n2_; (try clear hb); (try clear hb2); (try clear hk); (try clear hi)) | ((with_reducible refine gate_callee (f := 35) rfl ?_); refine goesL_ (some 59) rfl rfl Try.func35 (by kernel_rfl) rfl #[.slice Ao59 t393.length co59] rfl (by (try simp only [List.map_toArray, List.map_cons, List.map_nil]); first | done | rfl | (simp only [List.length_drop, List.length_take]; rfl)) ?_; (with_reducible refine (turndownref08_Assign.calls k _ _ t393 t406 t407 _ ?side1 ?side2 A7.out).mono ?_); (case side1 => repeat (first | exact (Kd.R_reads' HO395.out).2.2 | (with_reducible refine Kd.C_alloc ?_ _) | (with_reducible refine Kd.C_drewN ?_ _) | (with_reducible refine Kd.C_drew ?_))); (case side2 => exact (Kd.R_reads' HO395.out).2.1); rintro e w63 ⟨v408, rfl, ho0, hb⟩; refine ⟨_, rfl, ?_⟩; have n0_ := Aside0.mk (Kd.R_below (by (with_reducible repeat (first | apply Kd.R_alloc | apply Kd.R_drewN | apply Kd.R_drew)); exact HO395.out) hb); have n1_ := Aside0.mk (Kd.R_elder' (by (with_reducible repeat (first | apply Kd.R_alloc | apply Kd.R_drewN | apply Kd.R_drew)); exact HO400.out) (Kd.R_base ho0) hb); have n2_ := Aside0.mk (Kd.R_lower (Kd.R_new' ho0 (Kd.R_lt (by (with_reducible repeat (first | apply Kd.R_alloc | apply Kd.R_drewN | apply Kd.R_drew)); exact HO400.out))) (below_size (by repeat (first | (with_reducible first | exact HB.out | apply below_alloc | apply pw_below_drewN | apply below_drew1) | exact HB.out)))); have n3_ := Aside0.mk (below_step (by repeat (first | (with_reducible first | exact HB.out | apply below_alloc | apply pw_below_drewN | apply below_drew1) | exact HB.out)) hb); clear HO395; clear HO400; clear HB; have HO395 := n0_; have HO400 := n1_; have HO409 := n2_; have HB := n3_; clear n0_ n1_ n2_ n3_; (try clear hb); (try clear hb2); (try clear hk); (try clear hi); (try clear ho0)) | ((with_reducible refine gate_callee (f := 36) rfl ?_); refine goesL_ (some 64) rfl rfl Try.func36 (by kernel_rfl) rfl #[.slice Ao59 t393.length co59] rfl (by (try simp only [List.map_toArray, List.map_cons, List.map_nil]); first | done | rfl | (simp only [List.length_drop, List.length_take]; rfl)) ?_; (with_reducible refine (turndownref08_Busiest.calls k _ _ t393 t410 t411 _ ?side1 ?side2 A8.out).mono ?_); (case side1 => repeat (first | exact (Kd.R_reads' HO395.out).2.2 | (with_reducible refine Kd.C_alloc ?_ _) | (with_reducible refine Kd.C_drewN ?_ _) | (with_reducible refine Kd.C_drew ?_))); (case side2 => exact (Kd.R_reads' HO395.out).2.1); rintro e w' ⟨rfl, ⟨nd, rfl⟩⟩; refine ⟨_, rfl, ?_⟩; obtain ⟨Ao64, co64, eo64⟩ := Kd.R_slice HO400.out; subst eo64; obtain ⟨Ao65, co65, eo65⟩ := Kd.R_slice HO409.out; subst eo65) | ((with_reducible refine gate_callee (f := 32) rfl ?_); refine goesL_ (some 69) rfl rfl Try.func32 (by kernel_rfl) rfl #[.slice Ao64 t396.length co64, .slice Ao65 t406.length co65] rfl (by (try simp only [List.map_toArray, List.map_cons, List.map_nil]); first | done | rfl | (simp only [List.length_drop, List.length_take]; rfl)) ?_; (with_reducible refine (turndownlaw08_ints.calls k _ _ t396 _ _ t406 true _ ?side1 ?side2 ?side3 ?side4 A9.out).mono ?_); (case side1 => repeat (first | exact (Kd.R_reads' HO400.out).2.2 | (with_reducible refine Kd.C_alloc ?_ _) | (with_reducible refine Kd.C_drewN ?_ _) | (with_reducible refine Kd.C_drew ?_))); (case side2 => exact (Kd.R_reads' HO400.out).2.1); (case side3 => repeat (first | exact (Kd.R_reads' HO409.out).2.2 | (with_reducible refine Kd.C_alloc ?_ _) | (with_reducible refine Kd.C_drewN ?_ _) | (with_reducible refine Kd.C_drew ?_))); (case side4 => exact (Kd.R_reads' HO409.out).2.1); rintro e w' ⟨rfl, ⟨nd, rfl⟩⟩; refine ⟨_, rfl, ?_⟩))
        go_ret
        exact ⟨by first | rfl | (simp [errW_none, errW_some] <;> rfl) | (simp [*, errW_none, errW_some] <;> rfl), by repeat (first | (with_reducible first | exact HB.out | apply below_alloc | apply pw_below_drewN | apply below_drew1) | exact HB.out)⟩
    · replace c10 := Bool.eq_false_iff.mpr c10
      subst c10
      have H1 : (some false) = some r := by rw [if_neg (show ¬ (false = true) by decide)] at H; exact H
      clear H
      have H := H1
      clear H1
      obtain rfl := Option.some.inj H
      go_enter Try.func9, Try.ntmps9
      go_wp2_with (first | ((with_reducible refine gate_callee (f := 14) rfl ?_); refine goesL_ (some 15) rfl rfl Try.func14 (by kernel_rfl) rfl #[.slice A0 l0.length c0] rfl (by (try simp only [List.map_toArray, List.map_cons, List.map_nil]); first | done | rfl | (simp only [List.length_drop, List.length_take]; rfl)) ?_; (with_reducible refine (turndownlaw08_bookings.calls _ _ l0 t393 _ ?side1 ?side2 A2.out).mono ?_); (case side1 => repeat (first | exact HR0.out | (with_reducible refine Kd.C_alloc ?_ _) | (with_reducible refine Kd.C_drewN ?_ _) | (with_reducible refine Kd.C_drew ?_))); (case side2 => exact HC0.out); rintro e w66 ⟨v394, rfl, ho0, hb⟩; refine ⟨_, rfl, ?_⟩; have n0_ := Aside0.mk (Kd.R_lower ho0 (below_size (by repeat (first | (with_reducible first | exact HB.out | apply below_alloc | apply pw_below_drewN | apply below_drew1) | exact HB.out)))); have n1_ := Aside0.mk (below_step (by repeat (first | (with_reducible first | exact HB.out | apply below_alloc | apply pw_below_drewN | apply below_drew1) | exact HB.out)) hb); clear HB; have HO395 := n0_; have HB := n1_; clear n0_ n1_; (try clear hb); (try clear hb2); (try clear hk); (try clear hi); (try clear ho0); obtain ⟨Ao67, co67, eo67⟩ := Kd.R_slice HO395.out; subst eo67) | ((with_reducible refine gate_callee (f := 31) rfl ?_); refine goesL_ (some 18) rfl rfl Try.func31 (by kernel_rfl) rfl #[.slice Ao67 t393.length co67] rfl (by (try simp only [List.map_toArray, List.map_cons, List.map_nil]); first | done | rfl | (simp only [List.length_drop, List.length_take]; rfl)) ?_; (with_reducible refine (rooms_Assign.calls _ _ t393 t396 t397 t398 _ ?side1 ?side2 A3.out).mono ?_); (case side1 => repeat (first | exact (Kd.R_reads' HO395.out).2.2 | (with_reducible refine Kd.C_alloc ?_ _) | (with_reducible refine Kd.C_drewN ?_ _) | (with_reducible refine Kd.C_drew ?_))); (case side2 => exact (Kd.R_reads' HO395.out).2.1); rintro e w68 ⟨v399, rfl, ho0, hb⟩; refine ⟨_, rfl, ?_⟩; have n0_ := Aside0.mk (Kd.R_below (by (with_reducible repeat (first | apply Kd.R_alloc | apply Kd.R_drewN | apply Kd.R_drew)); exact HO395.out) hb); have n1_ := Aside0.mk (Kd.R_lower ho0 (below_size (by repeat (first | (with_reducible first | exact HB.out | apply below_alloc | apply pw_below_drewN | apply below_drew1) | exact HB.out)))); have n2_ := Aside0.mk (below_step (by repeat (first | (with_reducible first | exact HB.out | apply below_alloc | apply pw_below_drewN | apply below_drew1) | exact HB.out)) hb); clear HO395; clear HB; have HO395 := n0_; have HO400 := n1_; have HB := n2_; clear n0_ n1_ n2_; (try clear hb); (try clear hb2); (try clear hk); (try clear hi); (try clear ho0)) | ((with_reducible refine gate_callee (f := 34) rfl ?_); refine goesL_ (some 24) rfl rfl Try.func34 (by kernel_rfl) rfl #[.slice Ao67 t393.length co67] rfl (by (try simp only [List.map_toArray, List.map_cons, List.map_nil]); first | done | rfl | (simp only [List.length_drop, List.length_take]; rfl)) ?_; (with_reducible refine (rooms_Busiest.calls k _ _ t393 t401 t402 t403 _ ?side1 ?side2 A4.out).mono ?_); (case side1 => repeat (first | exact (Kd.R_reads' HO395.out).2.2 | (with_reducible refine Kd.C_alloc ?_ _) | (with_reducible refine Kd.C_drewN ?_ _) | (with_reducible refine Kd.C_drew ?_))); (case side2 => exact (Kd.R_reads' HO395.out).2.1); rintro e w69 ⟨rfl, hb⟩; refine ⟨_, rfl, ?_⟩; have n0_ := Aside0.mk (Kd.R_below (by (with_reducible repeat (first | apply Kd.R_alloc | apply Kd.R_drewN | apply Kd.R_drew)); exact HO395.out) hb); have n1_ := Aside0.mk (Kd.R_below (by (with_reducible repeat (first | apply Kd.R_alloc | apply Kd.R_drewN | apply Kd.R_drew)); exact HO400.out) hb); have n2_ := Aside0.mk (below_step (by repeat (first | (with_reducible first | exact HB.out | apply below_alloc | apply pw_below_drewN | apply below_drew1) | exact HB.out)) hb); clear HO395; clear HO400; clear HB; have HO395 := n0_; have HO400 := n1_; have HB := n2_; clear n0_ n1_ n2_; (try clear hb); (try clear hb2); (try clear hk); (try clear hi)) | ((with_reducible refine gate_callee (f := 17) rfl ?_); refine goesL_ (some 29) rfl rfl Try.func17 (by kernel_rfl) rfl #[.slice Ao67 t393.length co67] rfl (by (try simp only [List.map_toArray, List.map_cons, List.map_nil]); first | done | rfl | (simp only [List.length_drop, List.length_take]; rfl)) ?_; (with_reducible refine (turndownref08_Bookings.calls k _ _ t393 true _ ?side1 ?side2 A5.out).mono ?_); (case side1 => repeat (first | exact (Kd.R_reads' HO395.out).2.2 | (with_reducible refine Kd.C_alloc ?_ _) | (with_reducible refine Kd.C_drewN ?_ _) | (with_reducible refine Kd.C_drew ?_))); (case side2 => exact (Kd.R_reads' HO395.out).2.1); rintro e w70 ⟨rfl, hb⟩; refine ⟨_, rfl, ?_⟩; have n0_ := Aside0.mk (Kd.R_below (by (with_reducible repeat (first | apply Kd.R_alloc | apply Kd.R_drewN | apply Kd.R_drew)); exact HO395.out) hb); have n1_ := Aside0.mk (Kd.R_below (by (with_reducible repeat (first | apply Kd.R_alloc | apply Kd.R_drewN | apply Kd.R_drew)); exact HO400.out) hb); have n2_ := Aside0.mk (below_step (by repeat (first | (with_reducible first | exact HB.out | apply below_alloc | apply pw_below_drewN | apply below_drew1) | exact HB.out)) hb); clear HO395; clear HO400; clear HB; have HO395 := n0_; have HO400 := n1_; have HB := n2_; clear n0_ n1_ n2_; (try clear hb); (try clear hb2); (try clear hk); (try clear hi)) | ((with_reducible refine gate_callee (f := 35) rfl ?_); refine goesL_ (some 59) rfl rfl Try.func35 (by kernel_rfl) rfl #[.slice Ao67 t393.length co67] rfl (by (try simp only [List.map_toArray, List.map_cons, List.map_nil]); first | done | rfl | (simp only [List.length_drop, List.length_take]; rfl)) ?_; (with_reducible refine (turndownref08_Assign.calls k _ _ t393 t406 t407 _ ?side1 ?side2 A7.out).mono ?_); (case side1 => repeat (first | exact (Kd.R_reads' HO395.out).2.2 | (with_reducible refine Kd.C_alloc ?_ _) | (with_reducible refine Kd.C_drewN ?_ _) | (with_reducible refine Kd.C_drew ?_))); (case side2 => exact (Kd.R_reads' HO395.out).2.1); rintro e w71 ⟨v408, rfl, ho0, hb⟩; refine ⟨_, rfl, ?_⟩; have n0_ := Aside0.mk (Kd.R_below (by (with_reducible repeat (first | apply Kd.R_alloc | apply Kd.R_drewN | apply Kd.R_drew)); exact HO395.out) hb); have n1_ := Aside0.mk (Kd.R_elder' (by (with_reducible repeat (first | apply Kd.R_alloc | apply Kd.R_drewN | apply Kd.R_drew)); exact HO400.out) (Kd.R_base ho0) hb); have n2_ := Aside0.mk (Kd.R_lower (Kd.R_new' ho0 (Kd.R_lt (by (with_reducible repeat (first | apply Kd.R_alloc | apply Kd.R_drewN | apply Kd.R_drew)); exact HO400.out))) (below_size (by repeat (first | (with_reducible first | exact HB.out | apply below_alloc | apply pw_below_drewN | apply below_drew1) | exact HB.out)))); have n3_ := Aside0.mk (below_step (by repeat (first | (with_reducible first | exact HB.out | apply below_alloc | apply pw_below_drewN | apply below_drew1) | exact HB.out)) hb); clear HO395; clear HO400; clear HB; have HO395 := n0_; have HO400 := n1_; have HO409 := n2_; have HB := n3_; clear n0_ n1_ n2_ n3_; (try clear hb); (try clear hb2); (try clear hk); (try clear hi); (try clear ho0)) | ((with_reducible refine gate_callee (f := 36) rfl ?_); refine goesL_ (some 64) rfl rfl Try.func36 (by kernel_rfl) rfl #[.slice Ao67 t393.length co67] rfl (by (try simp only [List.map_toArray, List.map_cons, List.map_nil]); first | done | rfl | (simp only [List.length_drop, List.length_take]; rfl)) ?_; (with_reducible refine (turndownref08_Busiest.calls k _ _ t393 t410 t411 _ ?side1 ?side2 A8.out).mono ?_); (case side1 => repeat (first | exact (Kd.R_reads' HO395.out).2.2 | (with_reducible refine Kd.C_alloc ?_ _) | (with_reducible refine Kd.C_drewN ?_ _) | (with_reducible refine Kd.C_drew ?_))); (case side2 => exact (Kd.R_reads' HO395.out).2.1); rintro e w' ⟨rfl, ⟨nd, rfl⟩⟩; refine ⟨_, rfl, ?_⟩; obtain ⟨Ao72, co72, eo72⟩ := Kd.R_slice HO400.out; subst eo72; obtain ⟨Ao73, co73, eo73⟩ := Kd.R_slice HO409.out; subst eo73) | ((with_reducible refine gate_callee (f := 32) rfl ?_); refine goesL_ (some 69) rfl rfl Try.func32 (by kernel_rfl) rfl #[.slice Ao72 t396.length co72, .slice Ao73 t406.length co73] rfl (by (try simp only [List.map_toArray, List.map_cons, List.map_nil]); first | done | rfl | (simp only [List.length_drop, List.length_take]; rfl)) ?_; (with_reducible refine (turndownlaw08_ints.calls k _ _ t396 _ _ t406 false _ ?side1 ?side2 ?side3 ?side4 A9.out).mono ?_); (case side1 => repeat (first | exact (Kd.R_reads' HO400.out).2.2 | (with_reducible refine Kd.C_alloc ?_ _) | (with_reducible refine Kd.C_drewN ?_ _) | (with_reducible refine Kd.C_drew ?_))); (case side2 => exact (Kd.R_reads' HO400.out).2.1); (case side3 => repeat (first | exact (Kd.R_reads' HO409.out).2.2 | (with_reducible refine Kd.C_alloc ?_ _) | (with_reducible refine Kd.C_drewN ?_ _) | (with_reducible refine Kd.C_drew ?_))); (case side4 => exact (Kd.R_reads' HO409.out).2.1); rintro e w' ⟨rfl, ⟨nd, rfl⟩⟩; refine ⟨_, rfl, ?_⟩))
      go_ret
      exact ⟨by first | rfl | (simp [errW_none, errW_some] <;> rfl) | (simp [*, errW_none, errW_some] <;> rfl), by repeat (first | (with_reducible first | exact HB.out | apply below_alloc | apply pw_below_drewN | apply below_drew1) | exact HB.out)⟩
  · replace c6 := Bool.eq_false_iff.mpr c6
    subst c6
    have H1 : (if (t396.length : Int) = 0 then (if t397 = 0 then (if t398 = 2 then (if t401 = 0 then (if t402 = 0 then (if t403 = 2 then ((turndownlaw08_awake.f).bind fun t405 => (some t405)) else (some false)) else (some false)) else (some false)) else (some false)) else (some false)) else (some false)) = some r := by rw [if_neg (show ¬ (false = true) by decide)] at H; exact H
    clear H
    have H := H1
    clear H1
    by_cases c74 : (t396.length : Int) = 0
    · rw [if_pos c74] at H
      have c74b0 : ((t396.length : Int) == 0) = true := beq_iff_eq.mpr c74
      have c74b1 : ((t396.length : Int) != 0) = false := bne_eq_false_iff_eq.mpr c74
      clear c74
      by_cases c75 : t397 = 0
      · rw [if_pos c75] at H
        have c75b0 : (t397 == 0) = true := beq_iff_eq.mpr c75
        have c75b1 : (t397 != 0) = false := bne_eq_false_iff_eq.mpr c75
        clear c75
        by_cases c76 : t398 = 2
        · rw [if_pos c76] at H
          have c76b0 : (t398 == 2) = true := beq_iff_eq.mpr c76
          have c76b1 : (t398 != 2) = false := bne_eq_false_iff_eq.mpr c76
          clear c76
          by_cases c77 : t401 = 0
          · rw [if_pos c77] at H
            have c77b0 : (t401 == 0) = true := beq_iff_eq.mpr c77
            have c77b1 : (t401 != 0) = false := bne_eq_false_iff_eq.mpr c77
            clear c77
            by_cases c78 : t402 = 0
            · rw [if_pos c78] at H
              have c78b0 : (t402 == 0) = true := beq_iff_eq.mpr c78
              have c78b1 : (t402 != 0) = false := bne_eq_false_iff_eq.mpr c78
              clear c78
              by_cases c79 : t403 = 2
              · rw [if_pos c79] at H
                have c79b0 : (t403 == 2) = true := beq_iff_eq.mpr c79
                have c79b1 : (t403 != 2) = false := bne_eq_false_iff_eq.mpr c79
                clear c79
                replace H := Option.bind_eq_some_iff.mp H
                obtain ⟨t405, A800, H⟩ := H
                replace H : (some t405) = some r := H
                have A80 := Aside0.mk A800
                clear A800
                obtain rfl := Option.some.inj H
                go_enter Try.func9, Try.ntmps9
                go_wp2_with (first | ((with_reducible refine gate_callee (f := 14) rfl ?_); refine goesL_ (some 15) rfl rfl Try.func14 (by kernel_rfl) rfl #[.slice A0 l0.length c0] rfl (by (try simp only [List.map_toArray, List.map_cons, List.map_nil]); first | done | rfl | (simp only [List.length_drop, List.length_take]; rfl)) ?_; (with_reducible refine (turndownlaw08_bookings.calls _ _ l0 t393 _ ?side1 ?side2 A2.out).mono ?_); (case side1 => repeat (first | exact HR0.out | (with_reducible refine Kd.C_alloc ?_ _) | (with_reducible refine Kd.C_drewN ?_ _) | (with_reducible refine Kd.C_drew ?_))); (case side2 => exact HC0.out); rintro e w81 ⟨v394, rfl, ho0, hb⟩; refine ⟨_, rfl, ?_⟩; have n0_ := Aside0.mk (Kd.R_lower ho0 (below_size (by repeat (first | (with_reducible first | exact HB.out | apply below_alloc | apply pw_below_drewN | apply below_drew1) | exact HB.out)))); have n1_ := Aside0.mk (below_step (by repeat (first | (with_reducible first | exact HB.out | apply below_alloc | apply pw_below_drewN | apply below_drew1) | exact HB.out)) hb); clear HB; have HO395 := n0_; have HB := n1_; clear n0_ n1_; (try clear hb); (try clear hb2); (try clear hk); (try clear hi); (try clear ho0); obtain ⟨Ao82, co82, eo82⟩ := Kd.R_slice HO395.out; subst eo82) | ((with_reducible refine gate_callee (f := 31) rfl ?_); refine goesL_ (some 18) rfl rfl Try.func31 (by kernel_rfl) rfl #[.slice Ao82 t393.length co82] rfl (by (try simp only [List.map_toArray, List.map_cons, List.map_nil]); first | done | rfl | (simp only [List.length_drop, List.length_take]; rfl)) ?_; (with_reducible refine (rooms_Assign.calls _ _ t393 t396 t397 t398 _ ?side1 ?side2 A3.out).mono ?_); (case side1 => repeat (first | exact (Kd.R_reads' HO395.out).2.2 | (with_reducible refine Kd.C_alloc ?_ _) | (with_reducible refine Kd.C_drewN ?_ _) | (with_reducible refine Kd.C_drew ?_))); (case side2 => exact (Kd.R_reads' HO395.out).2.1); rintro e w83 ⟨v399, rfl, ho0, hb⟩; refine ⟨_, rfl, ?_⟩; have n0_ := Aside0.mk (Kd.R_below (by (with_reducible repeat (first | apply Kd.R_alloc | apply Kd.R_drewN | apply Kd.R_drew)); exact HO395.out) hb); have n1_ := Aside0.mk (Kd.R_lower ho0 (below_size (by repeat (first | (with_reducible first | exact HB.out | apply below_alloc | apply pw_below_drewN | apply below_drew1) | exact HB.out)))); have n2_ := Aside0.mk (below_step (by repeat (first | (with_reducible first | exact HB.out | apply below_alloc | apply pw_below_drewN | apply below_drew1) | exact HB.out)) hb); clear HO395; clear HB; have HO395 := n0_; have HO400 := n1_; have HB := n2_; clear n0_ n1_ n2_; (try clear hb); (try clear hb2); (try clear hk); (try clear hi); (try clear ho0)) | ((with_reducible refine gate_callee (f := 34) rfl ?_); refine goesL_ (some 24) rfl rfl Try.func34 (by kernel_rfl) rfl #[.slice Ao82 t393.length co82] rfl (by (try simp only [List.map_toArray, List.map_cons, List.map_nil]); first | done | rfl | (simp only [List.length_drop, List.length_take]; rfl)) ?_; (with_reducible refine (rooms_Busiest.calls k _ _ t393 t401 t402 t403 _ ?side1 ?side2 A4.out).mono ?_); (case side1 => repeat (first | exact (Kd.R_reads' HO395.out).2.2 | (with_reducible refine Kd.C_alloc ?_ _) | (with_reducible refine Kd.C_drewN ?_ _) | (with_reducible refine Kd.C_drew ?_))); (case side2 => exact (Kd.R_reads' HO395.out).2.1); rintro e w84 ⟨rfl, hb⟩; refine ⟨_, rfl, ?_⟩; have n0_ := Aside0.mk (Kd.R_below (by (with_reducible repeat (first | apply Kd.R_alloc | apply Kd.R_drewN | apply Kd.R_drew)); exact HO395.out) hb); have n1_ := Aside0.mk (Kd.R_below (by (with_reducible repeat (first | apply Kd.R_alloc | apply Kd.R_drewN | apply Kd.R_drew)); exact HO400.out) hb); have n2_ := Aside0.mk (below_step (by repeat (first | (with_reducible first | exact HB.out | apply below_alloc | apply pw_below_drewN | apply below_drew1) | exact HB.out)) hb); clear HO395; clear HO400; clear HB; have HO395 := n0_; have HO400 := n1_; have HB := n2_; clear n0_ n1_ n2_; (try clear hb); (try clear hb2); (try clear hk); (try clear hi)) | ((with_reducible refine gate_callee (f := 17) rfl ?_); refine goesL_ (some 29) rfl rfl Try.func17 (by kernel_rfl) rfl #[.slice Ao82 t393.length co82] rfl (by (try simp only [List.map_toArray, List.map_cons, List.map_nil]); first | done | rfl | (simp only [List.length_drop, List.length_take]; rfl)) ?_; (with_reducible refine (turndownref08_Bookings.calls k _ _ t393 false _ ?side1 ?side2 A5.out).mono ?_); (case side1 => repeat (first | exact (Kd.R_reads' HO395.out).2.2 | (with_reducible refine Kd.C_alloc ?_ _) | (with_reducible refine Kd.C_drewN ?_ _) | (with_reducible refine Kd.C_drew ?_))); (case side2 => exact (Kd.R_reads' HO395.out).2.1); rintro e w85 ⟨rfl, hb⟩; refine ⟨_, rfl, ?_⟩; have n0_ := Aside0.mk (Kd.R_below (by (with_reducible repeat (first | apply Kd.R_alloc | apply Kd.R_drewN | apply Kd.R_drew)); exact HO395.out) hb); have n1_ := Aside0.mk (Kd.R_below (by (with_reducible repeat (first | apply Kd.R_alloc | apply Kd.R_drewN | apply Kd.R_drew)); exact HO400.out) hb); have n2_ := Aside0.mk (below_step (by repeat (first | (with_reducible first | exact HB.out | apply below_alloc | apply pw_below_drewN | apply below_drew1) | exact HB.out)) hb); clear HO395; clear HO400; clear HB; have HO395 := n0_; have HO400 := n1_; have HB := n2_; clear n0_ n1_ n2_; (try clear hb); (try clear hb2); (try clear hk); (try clear hi); obtain ⟨Ao86, co86, eo86⟩ := Kd.R_slice HO400.out; subst eo86) | (go_at_call 20; (with_reducible refine (turndownlaw08_awake.calls  t405 _ A80.out).mono ?_); rintro e w87 ⟨rfl, hb⟩; have n0_ := Aside0.mk (Kd.R_below (by (with_reducible repeat (first | apply Kd.R_alloc | apply Kd.R_drewN | apply Kd.R_drew)); exact HO395.out) hb); have n1_ := Aside0.mk (Kd.R_below (by (with_reducible repeat (first | apply Kd.R_alloc | apply Kd.R_drewN | apply Kd.R_drew)); exact HO400.out) hb); have n2_ := Aside0.mk (below_step (by repeat (first | (with_reducible first | exact HB.out | apply below_alloc | apply pw_below_drewN | apply below_drew1) | exact HB.out)) hb); clear HO395; clear HO400; clear HB; have HO395 := n0_; have HO400 := n1_; have HB := n2_; clear n0_ n1_ n2_; (try clear hb); (try clear hb2); (try clear hk); (try clear hi)))
                go_ret
                exact ⟨by first | rfl | (simp [errW_none, errW_some] <;> rfl) | (simp [*, errW_none, errW_some] <;> rfl), by repeat (first | (with_reducible first | exact HB.out | apply below_alloc | apply pw_below_drewN | apply below_drew1) | exact HB.out)⟩
              · rw [if_neg c79] at H
                have c79b0 : (t403 == 2) = false := beq_eq_false_iff_ne.mpr c79
                have c79b1 : (t403 != 2) = true := bne_iff_ne.mpr c79
                obtain rfl := Option.some.inj H
                go_enter Try.func9, Try.ntmps9
                go_wp2_with (first | ((with_reducible refine gate_callee (f := 14) rfl ?_); refine goesL_ (some 15) rfl rfl Try.func14 (by kernel_rfl) rfl #[.slice A0 l0.length c0] rfl (by (try simp only [List.map_toArray, List.map_cons, List.map_nil]); first | done | rfl | (simp only [List.length_drop, List.length_take]; rfl)) ?_; (with_reducible refine (turndownlaw08_bookings.calls _ _ l0 t393 _ ?side1 ?side2 A2.out).mono ?_); (case side1 => repeat (first | exact HR0.out | (with_reducible refine Kd.C_alloc ?_ _) | (with_reducible refine Kd.C_drewN ?_ _) | (with_reducible refine Kd.C_drew ?_))); (case side2 => exact HC0.out); rintro e w88 ⟨v394, rfl, ho0, hb⟩; refine ⟨_, rfl, ?_⟩; have n0_ := Aside0.mk (Kd.R_lower ho0 (below_size (by repeat (first | (with_reducible first | exact HB.out | apply below_alloc | apply pw_below_drewN | apply below_drew1) | exact HB.out)))); have n1_ := Aside0.mk (below_step (by repeat (first | (with_reducible first | exact HB.out | apply below_alloc | apply pw_below_drewN | apply below_drew1) | exact HB.out)) hb); clear HB; have HO395 := n0_; have HB := n1_; clear n0_ n1_; (try clear hb); (try clear hb2); (try clear hk); (try clear hi); (try clear ho0); obtain ⟨Ao89, co89, eo89⟩ := Kd.R_slice HO395.out; subst eo89) | ((with_reducible refine gate_callee (f := 31) rfl ?_); refine goesL_ (some 18) rfl rfl Try.func31 (by kernel_rfl) rfl #[.slice Ao89 t393.length co89] rfl (by (try simp only [List.map_toArray, List.map_cons, List.map_nil]); first | done | rfl | (simp only [List.length_drop, List.length_take]; rfl)) ?_; (with_reducible refine (rooms_Assign.calls _ _ t393 t396 t397 t398 _ ?side1 ?side2 A3.out).mono ?_); (case side1 => repeat (first | exact (Kd.R_reads' HO395.out).2.2 | (with_reducible refine Kd.C_alloc ?_ _) | (with_reducible refine Kd.C_drewN ?_ _) | (with_reducible refine Kd.C_drew ?_))); (case side2 => exact (Kd.R_reads' HO395.out).2.1); rintro e w90 ⟨v399, rfl, ho0, hb⟩; refine ⟨_, rfl, ?_⟩; have n0_ := Aside0.mk (Kd.R_below (by (with_reducible repeat (first | apply Kd.R_alloc | apply Kd.R_drewN | apply Kd.R_drew)); exact HO395.out) hb); have n1_ := Aside0.mk (Kd.R_lower ho0 (below_size (by repeat (first | (with_reducible first | exact HB.out | apply below_alloc | apply pw_below_drewN | apply below_drew1) | exact HB.out)))); have n2_ := Aside0.mk (below_step (by repeat (first | (with_reducible first | exact HB.out | apply below_alloc | apply pw_below_drewN | apply below_drew1) | exact HB.out)) hb); clear HO395; clear HB; have HO395 := n0_; have HO400 := n1_; have HB := n2_; clear n0_ n1_ n2_; (try clear hb); (try clear hb2); (try clear hk); (try clear hi); (try clear ho0)) | ((with_reducible refine gate_callee (f := 34) rfl ?_); refine goesL_ (some 24) rfl rfl Try.func34 (by kernel_rfl) rfl #[.slice Ao89 t393.length co89] rfl (by (try simp only [List.map_toArray, List.map_cons, List.map_nil]); first | done | rfl | (simp only [List.length_drop, List.length_take]; rfl)) ?_; (with_reducible refine (rooms_Busiest.calls k _ _ t393 t401 t402 t403 _ ?side1 ?side2 A4.out).mono ?_); (case side1 => repeat (first | exact (Kd.R_reads' HO395.out).2.2 | (with_reducible refine Kd.C_alloc ?_ _) | (with_reducible refine Kd.C_drewN ?_ _) | (with_reducible refine Kd.C_drew ?_))); (case side2 => exact (Kd.R_reads' HO395.out).2.1); rintro e w91 ⟨rfl, hb⟩; refine ⟨_, rfl, ?_⟩; have n0_ := Aside0.mk (Kd.R_below (by (with_reducible repeat (first | apply Kd.R_alloc | apply Kd.R_drewN | apply Kd.R_drew)); exact HO395.out) hb); have n1_ := Aside0.mk (Kd.R_below (by (with_reducible repeat (first | apply Kd.R_alloc | apply Kd.R_drewN | apply Kd.R_drew)); exact HO400.out) hb); have n2_ := Aside0.mk (below_step (by repeat (first | (with_reducible first | exact HB.out | apply below_alloc | apply pw_below_drewN | apply below_drew1) | exact HB.out)) hb); clear HO395; clear HO400; clear HB; have HO395 := n0_; have HO400 := n1_; have HB := n2_; clear n0_ n1_ n2_; (try clear hb); (try clear hb2); (try clear hk); (try clear hi)) | ((with_reducible refine gate_callee (f := 17) rfl ?_); refine goesL_ (some 29) rfl rfl Try.func17 (by kernel_rfl) rfl #[.slice Ao89 t393.length co89] rfl (by (try simp only [List.map_toArray, List.map_cons, List.map_nil]); first | done | rfl | (simp only [List.length_drop, List.length_take]; rfl)) ?_; (with_reducible refine (turndownref08_Bookings.calls k _ _ t393 false _ ?side1 ?side2 A5.out).mono ?_); (case side1 => repeat (first | exact (Kd.R_reads' HO395.out).2.2 | (with_reducible refine Kd.C_alloc ?_ _) | (with_reducible refine Kd.C_drewN ?_ _) | (with_reducible refine Kd.C_drew ?_))); (case side2 => exact (Kd.R_reads' HO395.out).2.1); rintro e w92 ⟨rfl, hb⟩; refine ⟨_, rfl, ?_⟩; have n0_ := Aside0.mk (Kd.R_below (by (with_reducible repeat (first | apply Kd.R_alloc | apply Kd.R_drewN | apply Kd.R_drew)); exact HO395.out) hb); have n1_ := Aside0.mk (Kd.R_below (by (with_reducible repeat (first | apply Kd.R_alloc | apply Kd.R_drewN | apply Kd.R_drew)); exact HO400.out) hb); have n2_ := Aside0.mk (below_step (by repeat (first | (with_reducible first | exact HB.out | apply below_alloc | apply pw_below_drewN | apply below_drew1) | exact HB.out)) hb); clear HO395; clear HO400; clear HB; have HO395 := n0_; have HO400 := n1_; have HB := n2_; clear n0_ n1_ n2_; (try clear hb); (try clear hb2); (try clear hk); (try clear hi); obtain ⟨Ao93, co93, eo93⟩ := Kd.R_slice HO400.out; subst eo93))
                go_ret
                exact ⟨by first | rfl | (simp [errW_none, errW_some] <;> rfl) | (simp [*, errW_none, errW_some] <;> rfl), by repeat (first | (with_reducible first | exact HB.out | apply below_alloc | apply pw_below_drewN | apply below_drew1) | exact HB.out)⟩
            · rw [if_neg c78] at H
              have c78b0 : (t402 == 0) = false := beq_eq_false_iff_ne.mpr c78
              have c78b1 : (t402 != 0) = true := bne_iff_ne.mpr c78
              obtain rfl := Option.some.inj H
              go_enter Try.func9, Try.ntmps9
              go_wp2_with (first | ((with_reducible refine gate_callee (f := 14) rfl ?_); refine goesL_ (some 15) rfl rfl Try.func14 (by kernel_rfl) rfl #[.slice A0 l0.length c0] rfl (by (try simp only [List.map_toArray, List.map_cons, List.map_nil]); first | done | rfl | (simp only [List.length_drop, List.length_take]; rfl)) ?_; (with_reducible refine (turndownlaw08_bookings.calls _ _ l0 t393 _ ?side1 ?side2 A2.out).mono ?_); (case side1 => repeat (first | exact HR0.out | (with_reducible refine Kd.C_alloc ?_ _) | (with_reducible refine Kd.C_drewN ?_ _) | (with_reducible refine Kd.C_drew ?_))); (case side2 => exact HC0.out); rintro e w94 ⟨v394, rfl, ho0, hb⟩; refine ⟨_, rfl, ?_⟩; have n0_ := Aside0.mk (Kd.R_lower ho0 (below_size (by repeat (first | (with_reducible first | exact HB.out | apply below_alloc | apply pw_below_drewN | apply below_drew1) | exact HB.out)))); have n1_ := Aside0.mk (below_step (by repeat (first | (with_reducible first | exact HB.out | apply below_alloc | apply pw_below_drewN | apply below_drew1) | exact HB.out)) hb); clear HB; have HO395 := n0_; have HB := n1_; clear n0_ n1_; (try clear hb); (try clear hb2); (try clear hk); (try clear hi); (try clear ho0); obtain ⟨Ao95, co95, eo95⟩ := Kd.R_slice HO395.out; subst eo95) | ((with_reducible refine gate_callee (f := 31) rfl ?_); refine goesL_ (some 18) rfl rfl Try.func31 (by kernel_rfl) rfl #[.slice Ao95 t393.length co95] rfl (by (try simp only [List.map_toArray, List.map_cons, List.map_nil]); first | done | rfl | (simp only [List.length_drop, List.length_take]; rfl)) ?_; (with_reducible refine (rooms_Assign.calls _ _ t393 t396 t397 t398 _ ?side1 ?side2 A3.out).mono ?_); (case side1 => repeat (first | exact (Kd.R_reads' HO395.out).2.2 | (with_reducible refine Kd.C_alloc ?_ _) | (with_reducible refine Kd.C_drewN ?_ _) | (with_reducible refine Kd.C_drew ?_))); (case side2 => exact (Kd.R_reads' HO395.out).2.1); rintro e w96 ⟨v399, rfl, ho0, hb⟩; refine ⟨_, rfl, ?_⟩; have n0_ := Aside0.mk (Kd.R_below (by (with_reducible repeat (first | apply Kd.R_alloc | apply Kd.R_drewN | apply Kd.R_drew)); exact HO395.out) hb); have n1_ := Aside0.mk (Kd.R_lower ho0 (below_size (by repeat (first | (with_reducible first | exact HB.out | apply below_alloc | apply pw_below_drewN | apply below_drew1) | exact HB.out)))); have n2_ := Aside0.mk (below_step (by repeat (first | (with_reducible first | exact HB.out | apply below_alloc | apply pw_below_drewN | apply below_drew1) | exact HB.out)) hb); clear HO395; clear HB; have HO395 := n0_; have HO400 := n1_; have HB := n2_; clear n0_ n1_ n2_; (try clear hb); (try clear hb2); (try clear hk); (try clear hi); (try clear ho0)) | ((with_reducible refine gate_callee (f := 34) rfl ?_); refine goesL_ (some 24) rfl rfl Try.func34 (by kernel_rfl) rfl #[.slice Ao95 t393.length co95] rfl (by (try simp only [List.map_toArray, List.map_cons, List.map_nil]); first | done | rfl | (simp only [List.length_drop, List.length_take]; rfl)) ?_; (with_reducible refine (rooms_Busiest.calls k _ _ t393 t401 t402 t403 _ ?side1 ?side2 A4.out).mono ?_); (case side1 => repeat (first | exact (Kd.R_reads' HO395.out).2.2 | (with_reducible refine Kd.C_alloc ?_ _) | (with_reducible refine Kd.C_drewN ?_ _) | (with_reducible refine Kd.C_drew ?_))); (case side2 => exact (Kd.R_reads' HO395.out).2.1); rintro e w97 ⟨rfl, hb⟩; refine ⟨_, rfl, ?_⟩; have n0_ := Aside0.mk (Kd.R_below (by (with_reducible repeat (first | apply Kd.R_alloc | apply Kd.R_drewN | apply Kd.R_drew)); exact HO395.out) hb); have n1_ := Aside0.mk (Kd.R_below (by (with_reducible repeat (first | apply Kd.R_alloc | apply Kd.R_drewN | apply Kd.R_drew)); exact HO400.out) hb); have n2_ := Aside0.mk (below_step (by repeat (first | (with_reducible first | exact HB.out | apply below_alloc | apply pw_below_drewN | apply below_drew1) | exact HB.out)) hb); clear HO395; clear HO400; clear HB; have HO395 := n0_; have HO400 := n1_; have HB := n2_; clear n0_ n1_ n2_; (try clear hb); (try clear hb2); (try clear hk); (try clear hi)) | ((with_reducible refine gate_callee (f := 17) rfl ?_); refine goesL_ (some 29) rfl rfl Try.func17 (by kernel_rfl) rfl #[.slice Ao95 t393.length co95] rfl (by (try simp only [List.map_toArray, List.map_cons, List.map_nil]); first | done | rfl | (simp only [List.length_drop, List.length_take]; rfl)) ?_; (with_reducible refine (turndownref08_Bookings.calls k _ _ t393 false _ ?side1 ?side2 A5.out).mono ?_); (case side1 => repeat (first | exact (Kd.R_reads' HO395.out).2.2 | (with_reducible refine Kd.C_alloc ?_ _) | (with_reducible refine Kd.C_drewN ?_ _) | (with_reducible refine Kd.C_drew ?_))); (case side2 => exact (Kd.R_reads' HO395.out).2.1); rintro e w98 ⟨rfl, hb⟩; refine ⟨_, rfl, ?_⟩; have n0_ := Aside0.mk (Kd.R_below (by (with_reducible repeat (first | apply Kd.R_alloc | apply Kd.R_drewN | apply Kd.R_drew)); exact HO395.out) hb); have n1_ := Aside0.mk (Kd.R_below (by (with_reducible repeat (first | apply Kd.R_alloc | apply Kd.R_drewN | apply Kd.R_drew)); exact HO400.out) hb); have n2_ := Aside0.mk (below_step (by repeat (first | (with_reducible first | exact HB.out | apply below_alloc | apply pw_below_drewN | apply below_drew1) | exact HB.out)) hb); clear HO395; clear HO400; clear HB; have HO395 := n0_; have HO400 := n1_; have HB := n2_; clear n0_ n1_ n2_; (try clear hb); (try clear hb2); (try clear hk); (try clear hi); obtain ⟨Ao99, co99, eo99⟩ := Kd.R_slice HO400.out; subst eo99))
              go_ret
              exact ⟨by first | rfl | (simp [errW_none, errW_some] <;> rfl) | (simp [*, errW_none, errW_some] <;> rfl), by repeat (first | (with_reducible first | exact HB.out | apply below_alloc | apply pw_below_drewN | apply below_drew1) | exact HB.out)⟩
          · rw [if_neg c77] at H
            have c77b0 : (t401 == 0) = false := beq_eq_false_iff_ne.mpr c77
            have c77b1 : (t401 != 0) = true := bne_iff_ne.mpr c77
            obtain rfl := Option.some.inj H
            go_enter Try.func9, Try.ntmps9
            go_wp2_with (first | ((with_reducible refine gate_callee (f := 14) rfl ?_); refine goesL_ (some 15) rfl rfl Try.func14 (by kernel_rfl) rfl #[.slice A0 l0.length c0] rfl (by (try simp only [List.map_toArray, List.map_cons, List.map_nil]); first | done | rfl | (simp only [List.length_drop, List.length_take]; rfl)) ?_; (with_reducible refine (turndownlaw08_bookings.calls _ _ l0 t393 _ ?side1 ?side2 A2.out).mono ?_); (case side1 => repeat (first | exact HR0.out | (with_reducible refine Kd.C_alloc ?_ _) | (with_reducible refine Kd.C_drewN ?_ _) | (with_reducible refine Kd.C_drew ?_))); (case side2 => exact HC0.out); rintro e w100 ⟨v394, rfl, ho0, hb⟩; refine ⟨_, rfl, ?_⟩; have n0_ := Aside0.mk (Kd.R_lower ho0 (below_size (by repeat (first | (with_reducible first | exact HB.out | apply below_alloc | apply pw_below_drewN | apply below_drew1) | exact HB.out)))); have n1_ := Aside0.mk (below_step (by repeat (first | (with_reducible first | exact HB.out | apply below_alloc | apply pw_below_drewN | apply below_drew1) | exact HB.out)) hb); clear HB; have HO395 := n0_; have HB := n1_; clear n0_ n1_; (try clear hb); (try clear hb2); (try clear hk); (try clear hi); (try clear ho0); obtain ⟨Ao101, co101, eo101⟩ := Kd.R_slice HO395.out; subst eo101) | ((with_reducible refine gate_callee (f := 31) rfl ?_); refine goesL_ (some 18) rfl rfl Try.func31 (by kernel_rfl) rfl #[.slice Ao101 t393.length co101] rfl (by (try simp only [List.map_toArray, List.map_cons, List.map_nil]); first | done | rfl | (simp only [List.length_drop, List.length_take]; rfl)) ?_; (with_reducible refine (rooms_Assign.calls _ _ t393 t396 t397 t398 _ ?side1 ?side2 A3.out).mono ?_); (case side1 => repeat (first | exact (Kd.R_reads' HO395.out).2.2 | (with_reducible refine Kd.C_alloc ?_ _) | (with_reducible refine Kd.C_drewN ?_ _) | (with_reducible refine Kd.C_drew ?_))); (case side2 => exact (Kd.R_reads' HO395.out).2.1); rintro e w102 ⟨v399, rfl, ho0, hb⟩; refine ⟨_, rfl, ?_⟩; have n0_ := Aside0.mk (Kd.R_below (by (with_reducible repeat (first | apply Kd.R_alloc | apply Kd.R_drewN | apply Kd.R_drew)); exact HO395.out) hb); have n1_ := Aside0.mk (Kd.R_lower ho0 (below_size (by repeat (first | (with_reducible first | exact HB.out | apply below_alloc | apply pw_below_drewN | apply below_drew1) | exact HB.out)))); have n2_ := Aside0.mk (below_step (by repeat (first | (with_reducible first | exact HB.out | apply below_alloc | apply pw_below_drewN | apply below_drew1) | exact HB.out)) hb); clear HO395; clear HB; have HO395 := n0_; have HO400 := n1_; have HB := n2_; clear n0_ n1_ n2_; (try clear hb); (try clear hb2); (try clear hk); (try clear hi); (try clear ho0)) | ((with_reducible refine gate_callee (f := 34) rfl ?_); refine goesL_ (some 24) rfl rfl Try.func34 (by kernel_rfl) rfl #[.slice Ao101 t393.length co101] rfl (by (try simp only [List.map_toArray, List.map_cons, List.map_nil]); first | done | rfl | (simp only [List.length_drop, List.length_take]; rfl)) ?_; (with_reducible refine (rooms_Busiest.calls k _ _ t393 t401 t402 t403 _ ?side1 ?side2 A4.out).mono ?_); (case side1 => repeat (first | exact (Kd.R_reads' HO395.out).2.2 | (with_reducible refine Kd.C_alloc ?_ _) | (with_reducible refine Kd.C_drewN ?_ _) | (with_reducible refine Kd.C_drew ?_))); (case side2 => exact (Kd.R_reads' HO395.out).2.1); rintro e w103 ⟨rfl, hb⟩; refine ⟨_, rfl, ?_⟩; have n0_ := Aside0.mk (Kd.R_below (by (with_reducible repeat (first | apply Kd.R_alloc | apply Kd.R_drewN | apply Kd.R_drew)); exact HO395.out) hb); have n1_ := Aside0.mk (Kd.R_below (by (with_reducible repeat (first | apply Kd.R_alloc | apply Kd.R_drewN | apply Kd.R_drew)); exact HO400.out) hb); have n2_ := Aside0.mk (below_step (by repeat (first | (with_reducible first | exact HB.out | apply below_alloc | apply pw_below_drewN | apply below_drew1) | exact HB.out)) hb); clear HO395; clear HO400; clear HB; have HO395 := n0_; have HO400 := n1_; have HB := n2_; clear n0_ n1_ n2_; (try clear hb); (try clear hb2); (try clear hk); (try clear hi)) | ((with_reducible refine gate_callee (f := 17) rfl ?_); refine goesL_ (some 29) rfl rfl Try.func17 (by kernel_rfl) rfl #[.slice Ao101 t393.length co101] rfl (by (try simp only [List.map_toArray, List.map_cons, List.map_nil]); first | done | rfl | (simp only [List.length_drop, List.length_take]; rfl)) ?_; (with_reducible refine (turndownref08_Bookings.calls k _ _ t393 false _ ?side1 ?side2 A5.out).mono ?_); (case side1 => repeat (first | exact (Kd.R_reads' HO395.out).2.2 | (with_reducible refine Kd.C_alloc ?_ _) | (with_reducible refine Kd.C_drewN ?_ _) | (with_reducible refine Kd.C_drew ?_))); (case side2 => exact (Kd.R_reads' HO395.out).2.1); rintro e w104 ⟨rfl, hb⟩; refine ⟨_, rfl, ?_⟩; have n0_ := Aside0.mk (Kd.R_below (by (with_reducible repeat (first | apply Kd.R_alloc | apply Kd.R_drewN | apply Kd.R_drew)); exact HO395.out) hb); have n1_ := Aside0.mk (Kd.R_below (by (with_reducible repeat (first | apply Kd.R_alloc | apply Kd.R_drewN | apply Kd.R_drew)); exact HO400.out) hb); have n2_ := Aside0.mk (below_step (by repeat (first | (with_reducible first | exact HB.out | apply below_alloc | apply pw_below_drewN | apply below_drew1) | exact HB.out)) hb); clear HO395; clear HO400; clear HB; have HO395 := n0_; have HO400 := n1_; have HB := n2_; clear n0_ n1_ n2_; (try clear hb); (try clear hb2); (try clear hk); (try clear hi); obtain ⟨Ao105, co105, eo105⟩ := Kd.R_slice HO400.out; subst eo105))
            go_ret
            exact ⟨by first | rfl | (simp [errW_none, errW_some] <;> rfl) | (simp [*, errW_none, errW_some] <;> rfl), by repeat (first | (with_reducible first | exact HB.out | apply below_alloc | apply pw_below_drewN | apply below_drew1) | exact HB.out)⟩
        · rw [if_neg c76] at H
          have c76b0 : (t398 == 2) = false := beq_eq_false_iff_ne.mpr c76
          have c76b1 : (t398 != 2) = true := bne_iff_ne.mpr c76
          obtain rfl := Option.some.inj H
          go_enter Try.func9, Try.ntmps9
          go_wp2_with (first | ((with_reducible refine gate_callee (f := 14) rfl ?_); refine goesL_ (some 15) rfl rfl Try.func14 (by kernel_rfl) rfl #[.slice A0 l0.length c0] rfl (by (try simp only [List.map_toArray, List.map_cons, List.map_nil]); first | done | rfl | (simp only [List.length_drop, List.length_take]; rfl)) ?_; (with_reducible refine (turndownlaw08_bookings.calls _ _ l0 t393 _ ?side1 ?side2 A2.out).mono ?_); (case side1 => repeat (first | exact HR0.out | (with_reducible refine Kd.C_alloc ?_ _) | (with_reducible refine Kd.C_drewN ?_ _) | (with_reducible refine Kd.C_drew ?_))); (case side2 => exact HC0.out); rintro e w106 ⟨v394, rfl, ho0, hb⟩; refine ⟨_, rfl, ?_⟩; have n0_ := Aside0.mk (Kd.R_lower ho0 (below_size (by repeat (first | (with_reducible first | exact HB.out | apply below_alloc | apply pw_below_drewN | apply below_drew1) | exact HB.out)))); have n1_ := Aside0.mk (below_step (by repeat (first | (with_reducible first | exact HB.out | apply below_alloc | apply pw_below_drewN | apply below_drew1) | exact HB.out)) hb); clear HB; have HO395 := n0_; have HB := n1_; clear n0_ n1_; (try clear hb); (try clear hb2); (try clear hk); (try clear hi); (try clear ho0); obtain ⟨Ao107, co107, eo107⟩ := Kd.R_slice HO395.out; subst eo107) | ((with_reducible refine gate_callee (f := 31) rfl ?_); refine goesL_ (some 18) rfl rfl Try.func31 (by kernel_rfl) rfl #[.slice Ao107 t393.length co107] rfl (by (try simp only [List.map_toArray, List.map_cons, List.map_nil]); first | done | rfl | (simp only [List.length_drop, List.length_take]; rfl)) ?_; (with_reducible refine (rooms_Assign.calls _ _ t393 t396 t397 t398 _ ?side1 ?side2 A3.out).mono ?_); (case side1 => repeat (first | exact (Kd.R_reads' HO395.out).2.2 | (with_reducible refine Kd.C_alloc ?_ _) | (with_reducible refine Kd.C_drewN ?_ _) | (with_reducible refine Kd.C_drew ?_))); (case side2 => exact (Kd.R_reads' HO395.out).2.1); rintro e w108 ⟨v399, rfl, ho0, hb⟩; refine ⟨_, rfl, ?_⟩; have n0_ := Aside0.mk (Kd.R_below (by (with_reducible repeat (first | apply Kd.R_alloc | apply Kd.R_drewN | apply Kd.R_drew)); exact HO395.out) hb); have n1_ := Aside0.mk (Kd.R_lower ho0 (below_size (by repeat (first | (with_reducible first | exact HB.out | apply below_alloc | apply pw_below_drewN | apply below_drew1) | exact HB.out)))); have n2_ := Aside0.mk (below_step (by repeat (first | (with_reducible first | exact HB.out | apply below_alloc | apply pw_below_drewN | apply below_drew1) | exact HB.out)) hb); clear HO395; clear HB; have HO395 := n0_; have HO400 := n1_; have HB := n2_; clear n0_ n1_ n2_; (try clear hb); (try clear hb2); (try clear hk); (try clear hi); (try clear ho0)) | ((with_reducible refine gate_callee (f := 34) rfl ?_); refine goesL_ (some 24) rfl rfl Try.func34 (by kernel_rfl) rfl #[.slice Ao107 t393.length co107] rfl (by (try simp only [List.map_toArray, List.map_cons, List.map_nil]); first | done | rfl | (simp only [List.length_drop, List.length_take]; rfl)) ?_; (with_reducible refine (rooms_Busiest.calls k _ _ t393 t401 t402 t403 _ ?side1 ?side2 A4.out).mono ?_); (case side1 => repeat (first | exact (Kd.R_reads' HO395.out).2.2 | (with_reducible refine Kd.C_alloc ?_ _) | (with_reducible refine Kd.C_drewN ?_ _) | (with_reducible refine Kd.C_drew ?_))); (case side2 => exact (Kd.R_reads' HO395.out).2.1); rintro e w109 ⟨rfl, hb⟩; refine ⟨_, rfl, ?_⟩; have n0_ := Aside0.mk (Kd.R_below (by (with_reducible repeat (first | apply Kd.R_alloc | apply Kd.R_drewN | apply Kd.R_drew)); exact HO395.out) hb); have n1_ := Aside0.mk (Kd.R_below (by (with_reducible repeat (first | apply Kd.R_alloc | apply Kd.R_drewN | apply Kd.R_drew)); exact HO400.out) hb); have n2_ := Aside0.mk (below_step (by repeat (first | (with_reducible first | exact HB.out | apply below_alloc | apply pw_below_drewN | apply below_drew1) | exact HB.out)) hb); clear HO395; clear HO400; clear HB; have HO395 := n0_; have HO400 := n1_; have HB := n2_; clear n0_ n1_ n2_; (try clear hb); (try clear hb2); (try clear hk); (try clear hi)) | ((with_reducible refine gate_callee (f := 17) rfl ?_); refine goesL_ (some 29) rfl rfl Try.func17 (by kernel_rfl) rfl #[.slice Ao107 t393.length co107] rfl (by (try simp only [List.map_toArray, List.map_cons, List.map_nil]); first | done | rfl | (simp only [List.length_drop, List.length_take]; rfl)) ?_; (with_reducible refine (turndownref08_Bookings.calls k _ _ t393 false _ ?side1 ?side2 A5.out).mono ?_); (case side1 => repeat (first | exact (Kd.R_reads' HO395.out).2.2 | (with_reducible refine Kd.C_alloc ?_ _) | (with_reducible refine Kd.C_drewN ?_ _) | (with_reducible refine Kd.C_drew ?_))); (case side2 => exact (Kd.R_reads' HO395.out).2.1); rintro e w110 ⟨rfl, hb⟩; refine ⟨_, rfl, ?_⟩; have n0_ := Aside0.mk (Kd.R_below (by (with_reducible repeat (first | apply Kd.R_alloc | apply Kd.R_drewN | apply Kd.R_drew)); exact HO395.out) hb); have n1_ := Aside0.mk (Kd.R_below (by (with_reducible repeat (first | apply Kd.R_alloc | apply Kd.R_drewN | apply Kd.R_drew)); exact HO400.out) hb); have n2_ := Aside0.mk (below_step (by repeat (first | (with_reducible first | exact HB.out | apply below_alloc | apply pw_below_drewN | apply below_drew1) | exact HB.out)) hb); clear HO395; clear HO400; clear HB; have HO395 := n0_; have HO400 := n1_; have HB := n2_; clear n0_ n1_ n2_; (try clear hb); (try clear hb2); (try clear hk); (try clear hi); obtain ⟨Ao111, co111, eo111⟩ := Kd.R_slice HO400.out; subst eo111))
          go_ret
          exact ⟨by first | rfl | (simp [errW_none, errW_some] <;> rfl) | (simp [*, errW_none, errW_some] <;> rfl), by repeat (first | (with_reducible first | exact HB.out | apply below_alloc | apply pw_below_drewN | apply below_drew1) | exact HB.out)⟩
      · rw [if_neg c75] at H
        have c75b0 : (t397 == 0) = false := beq_eq_false_iff_ne.mpr c75
        have c75b1 : (t397 != 0) = true := bne_iff_ne.mpr c75
        obtain rfl := Option.some.inj H
        go_enter Try.func9, Try.ntmps9
        go_wp2_with (first | ((with_reducible refine gate_callee (f := 14) rfl ?_); refine goesL_ (some 15) rfl rfl Try.func14 (by kernel_rfl) rfl #[.slice A0 l0.length c0] rfl (by (try simp only [List.map_toArray, List.map_cons, List.map_nil]); first | done | rfl | (simp only [List.length_drop, List.length_take]; rfl)) ?_; (with_reducible refine (turndownlaw08_bookings.calls _ _ l0 t393 _ ?side1 ?side2 A2.out).mono ?_); (case side1 => repeat (first | exact HR0.out | (with_reducible refine Kd.C_alloc ?_ _) | (with_reducible refine Kd.C_drewN ?_ _) | (with_reducible refine Kd.C_drew ?_))); (case side2 => exact HC0.out); rintro e w112 ⟨v394, rfl, ho0, hb⟩; refine ⟨_, rfl, ?_⟩; have n0_ := Aside0.mk (Kd.R_lower ho0 (below_size (by repeat (first | (with_reducible first | exact HB.out | apply below_alloc | apply pw_below_drewN | apply below_drew1) | exact HB.out)))); have n1_ := Aside0.mk (below_step (by repeat (first | (with_reducible first | exact HB.out | apply below_alloc | apply pw_below_drewN | apply below_drew1) | exact HB.out)) hb); clear HB; have HO395 := n0_; have HB := n1_; clear n0_ n1_; (try clear hb); (try clear hb2); (try clear hk); (try clear hi); (try clear ho0); obtain ⟨Ao113, co113, eo113⟩ := Kd.R_slice HO395.out; subst eo113) | ((with_reducible refine gate_callee (f := 31) rfl ?_); refine goesL_ (some 18) rfl rfl Try.func31 (by kernel_rfl) rfl #[.slice Ao113 t393.length co113] rfl (by (try simp only [List.map_toArray, List.map_cons, List.map_nil]); first | done | rfl | (simp only [List.length_drop, List.length_take]; rfl)) ?_; (with_reducible refine (rooms_Assign.calls _ _ t393 t396 t397 t398 _ ?side1 ?side2 A3.out).mono ?_); (case side1 => repeat (first | exact (Kd.R_reads' HO395.out).2.2 | (with_reducible refine Kd.C_alloc ?_ _) | (with_reducible refine Kd.C_drewN ?_ _) | (with_reducible refine Kd.C_drew ?_))); (case side2 => exact (Kd.R_reads' HO395.out).2.1); rintro e w114 ⟨v399, rfl, ho0, hb⟩; refine ⟨_, rfl, ?_⟩; have n0_ := Aside0.mk (Kd.R_below (by (with_reducible repeat (first | apply Kd.R_alloc | apply Kd.R_drewN | apply Kd.R_drew)); exact HO395.out) hb); have n1_ := Aside0.mk (Kd.R_lower ho0 (below_size (by repeat (first | (with_reducible first | exact HB.out | apply below_alloc | apply pw_below_drewN | apply below_drew1) | exact HB.out)))); have n2_ := Aside0.mk (below_step (by repeat (first | (with_reducible first | exact HB.out | apply below_alloc | apply pw_below_drewN | apply below_drew1) | exact HB.out)) hb); clear HO395; clear HB; have HO395 := n0_; have HO400 := n1_; have HB := n2_; clear n0_ n1_ n2_; (try clear hb); (try clear hb2); (try clear hk); (try clear hi); (try clear ho0)) | ((with_reducible refine gate_callee (f := 34) rfl ?_); refine goesL_ (some 24) rfl rfl Try.func34 (by kernel_rfl) rfl #[.slice Ao113 t393.length co113] rfl (by (try simp only [List.map_toArray, List.map_cons, List.map_nil]); first | done | rfl | (simp only [List.length_drop, List.length_take]; rfl)) ?_; (with_reducible refine (rooms_Busiest.calls k _ _ t393 t401 t402 t403 _ ?side1 ?side2 A4.out).mono ?_); (case side1 => repeat (first | exact (Kd.R_reads' HO395.out).2.2 | (with_reducible refine Kd.C_alloc ?_ _) | (with_reducible refine Kd.C_drewN ?_ _) | (with_reducible refine Kd.C_drew ?_))); (case side2 => exact (Kd.R_reads' HO395.out).2.1); rintro e w115 ⟨rfl, hb⟩; refine ⟨_, rfl, ?_⟩; have n0_ := Aside0.mk (Kd.R_below (by (with_reducible repeat (first | apply Kd.R_alloc | apply Kd.R_drewN | apply Kd.R_drew)); exact HO395.out) hb); have n1_ := Aside0.mk (Kd.R_below (by (with_reducible repeat (first | apply Kd.R_alloc | apply Kd.R_drewN | apply Kd.R_drew)); exact HO400.out) hb); have n2_ := Aside0.mk (below_step (by repeat (first | (with_reducible first | exact HB.out | apply below_alloc | apply pw_below_drewN | apply below_drew1) | exact HB.out)) hb); clear HO395; clear HO400; clear HB; have HO395 := n0_; have HO400 := n1_; have HB := n2_; clear n0_ n1_ n2_; (try clear hb); (try clear hb2); (try clear hk); (try clear hi)) | ((with_reducible refine gate_callee (f := 17) rfl ?_); refine goesL_ (some 29) rfl rfl Try.func17 (by kernel_rfl) rfl #[.slice Ao113 t393.length co113] rfl (by (try simp only [List.map_toArray, List.map_cons, List.map_nil]); first | done | rfl | (simp only [List.length_drop, List.length_take]; rfl)) ?_; (with_reducible refine (turndownref08_Bookings.calls k _ _ t393 false _ ?side1 ?side2 A5.out).mono ?_); (case side1 => repeat (first | exact (Kd.R_reads' HO395.out).2.2 | (with_reducible refine Kd.C_alloc ?_ _) | (with_reducible refine Kd.C_drewN ?_ _) | (with_reducible refine Kd.C_drew ?_))); (case side2 => exact (Kd.R_reads' HO395.out).2.1); rintro e w116 ⟨rfl, hb⟩; refine ⟨_, rfl, ?_⟩; have n0_ := Aside0.mk (Kd.R_below (by (with_reducible repeat (first | apply Kd.R_alloc | apply Kd.R_drewN | apply Kd.R_drew)); exact HO395.out) hb); have n1_ := Aside0.mk (Kd.R_below (by (with_reducible repeat (first | apply Kd.R_alloc | apply Kd.R_drewN | apply Kd.R_drew)); exact HO400.out) hb); have n2_ := Aside0.mk (below_step (by repeat (first | (with_reducible first | exact HB.out | apply below_alloc | apply pw_below_drewN | apply below_drew1) | exact HB.out)) hb); clear HO395; clear HO400; clear HB; have HO395 := n0_; have HO400 := n1_; have HB := n2_; clear n0_ n1_ n2_; (try clear hb); (try clear hb2); (try clear hk); (try clear hi); obtain ⟨Ao117, co117, eo117⟩ := Kd.R_slice HO400.out; subst eo117))
        go_ret
        exact ⟨by first | rfl | (simp [errW_none, errW_some] <;> rfl) | (simp [*, errW_none, errW_some] <;> rfl), by repeat (first | (with_reducible first | exact HB.out | apply below_alloc | apply pw_below_drewN | apply below_drew1) | exact HB.out)⟩
    · rw [if_neg c74] at H
      have c74b0 : ((t396.length : Int) == 0) = false := beq_eq_false_iff_ne.mpr c74
      have c74b1 : ((t396.length : Int) != 0) = true := bne_iff_ne.mpr c74
      have c74b2 : ¬ (t396 = []) := fun h_ => c74 (by rw [h_]; rfl)
      obtain rfl := Option.some.inj H
      go_enter Try.func9, Try.ntmps9
      go_wp2_with (first | ((with_reducible refine gate_callee (f := 14) rfl ?_); refine goesL_ (some 15) rfl rfl Try.func14 (by kernel_rfl) rfl #[.slice A0 l0.length c0] rfl (by (try simp only [List.map_toArray, List.map_cons, List.map_nil]); first | done | rfl | (simp only [List.length_drop, List.length_take]; rfl)) ?_; (with_reducible refine (turndownlaw08_bookings.calls _ _ l0 t393 _ ?side1 ?side2 A2.out).mono ?_); (case side1 => repeat (first | exact HR0.out | (with_reducible refine Kd.C_alloc ?_ _) | (with_reducible refine Kd.C_drewN ?_ _) | (with_reducible refine Kd.C_drew ?_))); (case side2 => exact HC0.out); rintro e w118 ⟨v394, rfl, ho0, hb⟩; refine ⟨_, rfl, ?_⟩; have n0_ := Aside0.mk (Kd.R_lower ho0 (below_size (by repeat (first | (with_reducible first | exact HB.out | apply below_alloc | apply pw_below_drewN | apply below_drew1) | exact HB.out)))); have n1_ := Aside0.mk (below_step (by repeat (first | (with_reducible first | exact HB.out | apply below_alloc | apply pw_below_drewN | apply below_drew1) | exact HB.out)) hb); clear HB; have HO395 := n0_; have HB := n1_; clear n0_ n1_; (try clear hb); (try clear hb2); (try clear hk); (try clear hi); (try clear ho0); obtain ⟨Ao119, co119, eo119⟩ := Kd.R_slice HO395.out; subst eo119) | ((with_reducible refine gate_callee (f := 31) rfl ?_); refine goesL_ (some 18) rfl rfl Try.func31 (by kernel_rfl) rfl #[.slice Ao119 t393.length co119] rfl (by (try simp only [List.map_toArray, List.map_cons, List.map_nil]); first | done | rfl | (simp only [List.length_drop, List.length_take]; rfl)) ?_; (with_reducible refine (rooms_Assign.calls _ _ t393 t396 t397 t398 _ ?side1 ?side2 A3.out).mono ?_); (case side1 => repeat (first | exact (Kd.R_reads' HO395.out).2.2 | (with_reducible refine Kd.C_alloc ?_ _) | (with_reducible refine Kd.C_drewN ?_ _) | (with_reducible refine Kd.C_drew ?_))); (case side2 => exact (Kd.R_reads' HO395.out).2.1); rintro e w120 ⟨v399, rfl, ho0, hb⟩; refine ⟨_, rfl, ?_⟩; have n0_ := Aside0.mk (Kd.R_below (by (with_reducible repeat (first | apply Kd.R_alloc | apply Kd.R_drewN | apply Kd.R_drew)); exact HO395.out) hb); have n1_ := Aside0.mk (Kd.R_lower ho0 (below_size (by repeat (first | (with_reducible first | exact HB.out | apply below_alloc | apply pw_below_drewN | apply below_drew1) | exact HB.out)))); have n2_ := Aside0.mk (below_step (by repeat (first | (with_reducible first | exact HB.out | apply below_alloc | apply pw_below_drewN | apply below_drew1) | exact HB.out)) hb); clear HO395; clear HB; have HO395 := n0_; have HO400 := n1_; have HB := n2_; clear n0_ n1_ n2_; (try clear hb); (try clear hb2); (try clear hk); (try clear hi); (try clear ho0)) | ((with_reducible refine gate_callee (f := 34) rfl ?_); refine goesL_ (some 24) rfl rfl Try.func34 (by kernel_rfl) rfl #[.slice Ao119 t393.length co119] rfl (by (try simp only [List.map_toArray, List.map_cons, List.map_nil]); first | done | rfl | (simp only [List.length_drop, List.length_take]; rfl)) ?_; (with_reducible refine (rooms_Busiest.calls k _ _ t393 t401 t402 t403 _ ?side1 ?side2 A4.out).mono ?_); (case side1 => repeat (first | exact (Kd.R_reads' HO395.out).2.2 | (with_reducible refine Kd.C_alloc ?_ _) | (with_reducible refine Kd.C_drewN ?_ _) | (with_reducible refine Kd.C_drew ?_))); (case side2 => exact (Kd.R_reads' HO395.out).2.1); rintro e w121 ⟨rfl, hb⟩; refine ⟨_, rfl, ?_⟩; have n0_ := Aside0.mk (Kd.R_below (by (with_reducible repeat (first | apply Kd.R_alloc | apply Kd.R_drewN | apply Kd.R_drew)); exact HO395.out) hb); have n1_ := Aside0.mk (Kd.R_below (by (with_reducible repeat (first | apply Kd.R_alloc | apply Kd.R_drewN | apply Kd.R_drew)); exact HO400.out) hb); have n2_ := Aside0.mk (below_step (by repeat (first | (with_reducible first | exact HB.out | apply below_alloc | apply pw_below_drewN | apply below_drew1) | exact HB.out)) hb); clear HO395; clear HO400; clear HB; have HO395 := n0_; have HO400 := n1_; have HB := n2_; clear n0_ n1_ n2_; (try clear hb); (try clear hb2); (try clear hk); (try clear hi)) | ((with_reducible refine gate_callee (f := 17) rfl ?_); refine goesL_ (some 29) rfl rfl Try.func17 (by kernel_rfl) rfl #[.slice Ao119 t393.length co119] rfl (by (try simp only [List.map_toArray, List.map_cons, List.map_nil]); first | done | rfl | (simp only [List.length_drop, List.length_take]; rfl)) ?_; (with_reducible refine (turndownref08_Bookings.calls k _ _ t393 false _ ?side1 ?side2 A5.out).mono ?_); (case side1 => repeat (first | exact (Kd.R_reads' HO395.out).2.2 | (with_reducible refine Kd.C_alloc ?_ _) | (with_reducible refine Kd.C_drewN ?_ _) | (with_reducible refine Kd.C_drew ?_))); (case side2 => exact (Kd.R_reads' HO395.out).2.1); rintro e w122 ⟨rfl, hb⟩; refine ⟨_, rfl, ?_⟩; have n0_ := Aside0.mk (Kd.R_below (by (with_reducible repeat (first | apply Kd.R_alloc | apply Kd.R_drewN | apply Kd.R_drew)); exact HO395.out) hb); have n1_ := Aside0.mk (Kd.R_below (by (with_reducible repeat (first | apply Kd.R_alloc | apply Kd.R_drewN | apply Kd.R_drew)); exact HO400.out) hb); have n2_ := Aside0.mk (below_step (by repeat (first | (with_reducible first | exact HB.out | apply below_alloc | apply pw_below_drewN | apply below_drew1) | exact HB.out)) hb); clear HO395; clear HO400; clear HB; have HO395 := n0_; have HO400 := n1_; have HB := n2_; clear n0_ n1_ n2_; (try clear hb); (try clear hb2); (try clear hk); (try clear hi); obtain ⟨Ao123, co123, eo123⟩ := Kd.R_slice HO400.out; subst eo123))
      go_ret
      exact ⟨by first | rfl | (simp [errW_none, errW_some] <;> rfl) | (simp [*, errW_none, errW_some] <;> rfl), by repeat (first | (with_reducible first | exact HB.out | apply below_alloc | apply pw_below_drewN | apply below_drew1) | exact HB.out)⟩
end Go.Proofs.Ytpjobcnfjpbaeaa.PA

namespace Go.Proofs.Ytpjobcnfjpbaeaa.M
open Go.RowKit Go.Proofs.YtpjobcnfjpbaeaaW.PrintWords Go.Proofs.YtpjobcnfjpbaeaaW.PrintLast Go.Proofs.YtpjobcnfjpbaeaaW.PrintMore
open Go.Proofs.Ytpjobcnfjpbaeaa.PA Go.Proofs.Ytpjobcnfjpbaeaa.A
structure Ext (I I' : Inst) (p : Int) (c : Nat → Int) : Prop where
  L : I'.L = I.L + 1
  n : I'.n = I.n
  R : ∀ k, k < I.n → I'.R k = I.R k
  cov : ∀ i k, i < I.L → I'.cov i k = I.cov i k
  pr : ∀ i, i < I.L → I'.p i = I.p i
  covL : ∀ k, I'.cov I.L k = c k
  pL : I'.p I.L = p
theorem Ext.rev {I I' : Inst} {p : Int} {c : Nat → Int} (h : Ext I I' p c) (X : Nat → Int) : I'.Rev X = I.Rev X + X I.L * p := by
  unfold Inst.Rev
  rw [h.L, sumTo, h.pL, sumTo_congr (g := fun i => X i * I.p i) (fun i hi => by rw [h.pr i hi])]
theorem Ext.sum {I I' : Inst} {p : Int} {c : Nat → Int} (h : Ext I I' p c) (X : Nat → Int) (k : Nat) : sumTo I'.L (fun i => X i * I'.cov i k) = sumTo I.L (fun i => X i * I.cov i k) + X I.L * c k := by
  rw [h.L, sumTo, h.covL, sumTo_congr (g := fun i => X i * I.cov i k) (fun i hi => by rw [h.cov i k hi])]
theorem upd_rev {I : Inst} (X : Nat → Int) (y : Int) : I.Rev (upd X I.L y) = I.Rev X := by
  unfold Inst.Rev
  exact sumTo_congr (fun i hi => by rw [upd_ne (by omega)])
theorem upd_used {I : Inst} (X : Nat → Int) (y : Int) (k : Nat) : sumTo I.L (fun i => upd X I.L y i * I.cov i k) = sumTo I.L (fun i => X i * I.cov i k) := sumTo_congr (fun i hi => by rw [upd_ne (by omega)])
theorem Ext.one {I I' : Inst} {p : Int} {c : Nat → Int} (h : Ext I I' p c) {X : Nat → Int} (hX : ∀ i, i < I.L → X i = 0 ∨ X i = 1) {y : Int} (hy : y = 0 ∨ y = 1) : ∀ i, i < I'.L → upd X I.L y i = 0 ∨ upd X I.L y i = 1 := by
  intro i hi
  rw [h.L] at hi
  by_cases e : i = I.L
  · rw [e, upd_same]; exact hy
  · rw [upd_ne e]; exact hX i (by omega)
structure Cut (I J : Inst) (c : Nat → Int) : Prop where
  L : J.L = I.L
  n : J.n = I.n
  cov : ∀ i k, i < I.L → J.cov i k = I.cov i k
  pr : ∀ i, i < I.L → J.p i = I.p i
  R : ∀ k, k < I.n → J.R k = I.R k - c k
theorem Cut.rev {I J : Inst} {c : Nat → Int} (h : Cut I J c) (X : Nat → Int) : J.Rev X = I.Rev X := by
  unfold Inst.Rev
  rw [h.L]
  exact sumTo_congr (fun i hi => by rw [h.pr i hi])
theorem Cut.sum {I J : Inst} {c : Nat → Int} (h : Cut I J c) (X : Nat → Int) (k : Nat) : sumTo J.L (fun i => X i * J.cov i k) = sumTo I.L (fun i => X i * I.cov i k) := by
  rw [h.L]
  exact sumTo_congr (fun i hi => by rw [h.cov i k hi])
theorem Ext.down {I I' : Inst} {p : Int} {c : Nat → Int} (h : Ext I I' p c) (hc : ∀ k, 0 ≤ c k) {X : Nat → Int} (hX : I'.Fit X) : I.Fit X := by
  refine ⟨fun i hi => hX.one i (by rw [h.L]; omega), fun k hk => ?_⟩
  have h1 := hX.fit k (by rw [h.n]; exact hk)
  rw [h.sum, h.R k hk] at h1
  have h2 := hc k
  rcases hX.one I.L (by rw [h.L]; omega) with e | e <;> rw [e] at h1 <;> omega
theorem Ext.up0 {I I' : Inst} {p : Int} {c : Nat → Int} (h : Ext I I' p c) {X : Nat → Int} (hX : I.Fit X) : I'.Fit (upd X I.L 0) := by
  refine ⟨h.one hX.one (.inl rfl), fun k hk => ?_⟩
  rw [h.n] at hk
  rw [h.sum, h.R k hk, upd_same, upd_used, Int.zero_mul, Int.add_zero]
  exact hX.fit k hk
theorem Ext.worth {I I' J : Inst} {p : Int} {c : Nat → Int} (h : Ext I I' p c) (hJ : Cut I J c) (hI : I.Ok) (hI' : I'.Ok) (okJ : J.Ok) (hc : ∀ k, 0 ≤ c k) {n m v : Int} (hn : I.Opt n) (hm : I'.Opt m) (hv : J.Opt v) : m = max n (p + v) := by
  have h1 : n ≤ m := by
    obtain ⟨X, q, hX, _, hr, _⟩ := hn
    have := hm.max hI' (h.up0 hX)
    rw [h.rev, upd_same, upd_rev, Int.zero_mul, Int.add_zero, hr] at this
    exact this
  have h2 : p + v ≤ m := by
    obtain ⟨X, q, hX, _, hr, _⟩ := hv
    have hf : I'.Fit (upd X I.L 1) := by
      refine ⟨h.one (fun i hi => hX.one i (by rw [hJ.L]; exact hi)) (.inr rfl), fun k hk => ?_⟩
      rw [h.n] at hk
      rw [h.sum, h.R k hk, upd_same, upd_used, Int.one_mul]
      have := hX.fit k (by rw [hJ.n]; exact hk)
      rw [hJ.sum, hJ.R k hk] at this
      omega
    have := hm.max hI' hf
    rw [h.rev, upd_same, upd_rev, Int.one_mul] at this
    rw [hJ.rev] at hr
    omega
  have h3 : m ≤ n ∨ m ≤ p + v := by
    obtain ⟨X, q, hX, _, hr, _⟩ := hm
    rw [h.rev] at hr
    rcases hX.one I.L (by rw [h.L]; omega) with e | e
    · left
      have := hn.max hI (h.down hc hX)
      rw [e] at hr
      omega
    · right
      have hf : J.Fit X := by
        refine ⟨fun i hi => hX.one i (by rw [h.L]; rw [hJ.L] at hi; omega), fun k hk => ?_⟩
        rw [hJ.n] at hk
        have h4 := hX.fit k (by rw [h.n]; exact hk)
        rw [h.sum, h.R k hk, e, Int.one_mul] at h4
        rw [hJ.sum, hJ.R k hk]
        omega
      have := hv.max okJ hf
      rw [hJ.rev] at this
      rw [e] at hr
      omega
  omega
structure Dear (I J : Inst) (j : Nat) (d : Int) : Prop where
  L : J.L = I.L
  n : J.n = I.n
  R : ∀ k, k < I.n → J.R k = I.R k
  cov : ∀ i k, i < I.L → J.cov i k = I.cov i k
  pr : ∀ i, i < I.L → i ≠ j → J.p i = I.p i
  lt : j < I.L
  at_ : J.p j = I.p j + d
theorem Dear.rev {I J : Inst} {j : Nat} {d : Int} (h : Dear I J j d) (X : Nat → Int) : J.Rev X = I.Rev X + X j * d := by
  unfold Inst.Rev
  rw [h.L, sumTo_one (f := fun i => X i * I.p i) h.lt (fun i hi hne => by rw [h.pr i hi hne]), h.at_, Int.mul_add]
  omega
theorem Dear.sum {I J : Inst} {j : Nat} {d : Int} (h : Dear I J j d) (X : Nat → Int) (k : Nat) : sumTo J.L (fun i => X i * J.cov i k) = sumTo I.L (fun i => X i * I.cov i k) := by
  rw [h.L]
  exact sumTo_congr (fun i hi => by rw [h.cov i k hi])
theorem Dear.fit {I J : Inst} {j : Nat} {d : Int} (h : Dear I J j d) {X : Nat → Int} : J.Fit X ↔ I.Fit X := by
  constructor
  · intro hX
    refine ⟨fun i hi => hX.one i (by rw [h.L]; exact hi), fun k hk => ?_⟩
    have := hX.fit k (by rw [h.n]; exact hk)
    rw [h.sum, h.R k hk] at this
    exact this
  · intro hX
    refine ⟨fun i hi => hX.one i (by rw [h.L] at hi; exact hi), fun k hk => ?_⟩
    rw [h.n] at hk
    rw [h.sum, h.R k hk]
    exact hX.fit k hk
def covL (x : S47) (k : Nat) : Int := if x.f0.toNat ≤ k ∧ k < x.f1.toNat then 1 else 0
end Go.Proofs.Ytpjobcnfjpbaeaa.M

namespace Go.Proofs.Ytpjobcnfjpbaeaa.M
open Go.RowKit Go.Proofs.YtpjobcnfjpbaeaaW.PrintWords Go.Proofs.YtpjobcnfjpbaeaaW.PrintLast Go.Proofs.YtpjobcnfjpbaeaaW.PrintMore
open Go.Proofs.Ytpjobcnfjpbaeaa.PA Go.Proofs.Ytpjobcnfjpbaeaa.A
structure Mirror (I J : Inst) : Prop where
  L : J.L = I.L
  n : J.n = I.n
  pr : ∀ i, i < I.L → J.p i = I.p i
  cov : ∀ i k, i < I.L → k < I.n → J.cov i k = I.cov i (I.n - 1 - k)
  R : ∀ k, k < I.n → J.R k = I.R (I.n - 1 - k)
theorem Mirror.rev {I J : Inst} (h : Mirror I J) (X : Nat → Int) : J.Rev X = I.Rev X := by
  unfold Inst.Rev
  rw [h.L]
  exact sumTo_congr (fun i hi => by rw [h.pr i hi])
theorem Mirror.fit {I J : Inst} (h : Mirror I J) {X : Nat → Int} : J.Fit X ↔ I.Fit X := by
  constructor
  · intro hX
    refine ⟨fun i hi => hX.one i (by rw [h.L]; exact hi), fun k hk => ?_⟩
    have h1 := hX.fit (I.n - 1 - k) (by rw [h.n]; omega)
    rw [h.L, h.R _ (by omega), sumTo_congr (g := fun i => X i * I.cov i k) (fun i hi => by rw [h.cov i _ hi (by omega), show I.n - 1 - (I.n - 1 - k) = k by omega])] at h1
    rw [show I.n - 1 - (I.n - 1 - k) = k by omega] at h1
    exact h1
  · intro hX
    refine ⟨fun i hi => hX.one i (by rw [h.L] at hi; exact hi), fun k hk => ?_⟩
    rw [h.n] at hk
    rw [h.L, h.R k hk, sumTo_congr (g := fun i => X i * I.cov i (I.n - 1 - k)) (fun i hi => by rw [h.cov i k hi hk])]
    exact hX.fit _ (by omega)
structure Scaled (I J : Inst) (c : Int) : Prop where
  L : J.L = I.L
  n : J.n = I.n
  pr : ∀ i, i < I.L → J.p i = c * I.p i
  cov : ∀ i k, i < I.L → J.cov i k = I.cov i k
  R : ∀ k, k < I.n → J.R k = I.R k
theorem Scaled.rev {I J : Inst} {c : Int} (h : Scaled I J c) (X : Nat → Int) : J.Rev X = c * I.Rev X := by
  unfold Inst.Rev
  rw [h.L, ← sumTo_mul]
  exact sumTo_congr (fun i hi => by rw [h.pr i hi, ← Int.mul_assoc, Int.mul_comm (X i) c, Int.mul_assoc])
theorem Scaled.fit {I J : Inst} {c : Int} (h : Scaled I J c) {X : Nat → Int} : J.Fit X ↔ I.Fit X := by
  constructor
  · intro hX
    refine ⟨fun i hi => hX.one i (by rw [h.L]; exact hi), fun k hk => ?_⟩
    have h1 := hX.fit k (by rw [h.n]; exact hk)
    rw [h.L, h.R k hk, sumTo_congr (g := fun i => X i * I.cov i k) (fun i hi => by rw [h.cov i k hi])] at h1
    exact h1
  · intro hX
    refine ⟨fun i hi => hX.one i (by rw [h.L] at hi; exact hi), fun k hk => ?_⟩
    rw [h.n] at hk
    rw [h.L, h.R k hk, sumTo_congr (g := fun i => X i * I.cov i k) (fun i hi => by rw [h.cov i k hi])]
    exact hX.fit k hk
end Go.Proofs.Ytpjobcnfjpbaeaa.M

namespace Go.Proofs.Ytpjobcnfjpbaeaa.M
open Go.RowKit Go.Proofs.YtpjobcnfjpbaeaaW.PrintWords Go.Proofs.YtpjobcnfjpbaeaaW.PrintLast Go.Proofs.YtpjobcnfjpbaeaaW.PrintMore
open Go.Proofs.Ytpjobcnfjpbaeaa.PA Go.Proofs.Ytpjobcnfjpbaeaa.A
theorem mem_getD {l : List S47} {i : Nat} (hi : i < l.length) : l.getD i z47 ∈ l := by rw [List.getD_eq_getElem?_getD, List.getElem?_eq_getElem hi]; exact List.getElem_mem hi
end Go.Proofs.Ytpjobcnfjpbaeaa.M

namespace Go.Proofs.Ytpjobcnfjpbaeaa.M
open Go.RowKit Go.Proofs.YtpjobcnfjpbaeaaW.PrintWords Go.Proofs.YtpjobcnfjpbaeaaW.PrintLast Go.Proofs.YtpjobcnfjpbaeaaW.PrintMore
open Go.Proofs.Ytpjobcnfjpbaeaa.PA Go.Proofs.Ytpjobcnfjpbaeaa.A
theorem inj_le {α β : Type} [DecidableEq β] (g : α → β) : ∀ (T : List α) (V : List β), (T.map g).Nodup → (∀ x ∈ T, g x ∈ V) → T.length ≤ V.length
  | [], V, _, _ => Nat.zero_le _
  | x :: T, V, hn, hm => by
    rw [List.map_cons, List.nodup_cons] at hn
    have hx := hm x (List.mem_cons_self)
    have ih := inj_le g T (V.erase (g x)) hn.2 (fun y hy => (List.mem_erase_of_ne (show g y ≠ g x from fun e => hn.1 (by rw [← e]; exact List.mem_map_of_mem hy))).2 (hm y (List.mem_cons_of_mem _ hy)))
    rw [List.length_erase_of_mem hx] at ih
    have := List.length_pos_of_mem hx
    simp only [List.length_cons]
    omega
def bF (l : List S47) (i : Int) : Int := (l.getD i.toNat z47).f0
def bT (l : List S47) (i : Int) : Int := (l.getD i.toNat z47).f1
def cv (l : List S47) (t i : Int) : Bool := decide (bF l i ≤ t ∧ t < bT l i)
def Bks (l : List S47) : Prop := ∀ i : Int, 0 ≤ i → i < l.length → 0 ≤ bF l i ∧ bF l i < bT l i ∧ bT l i ≤ 60
structure Ord (l : List S47) (ord : List Int) : Prop where
  nd : ord.Nodup
  mem : ∀ i, i ∈ ord ↔ 0 ≤ i ∧ i < l.length
  asc : ord.Pairwise (fun i j => bF l i ≤ bF l j)
structure Greedy (l : List S47) (S free out : List Int) : Prop where
  nd : S.Nodup
  rng : ∀ i ∈ S, 0 ≤ i ∧ i < l.length
  len : out.length = l.length
  room : ∀ i ∈ S, 0 ≤ out.getD i.toNat 0 ∧ out.getD i.toNat 0 < free.length
  upto : ∀ i ∈ S, bT l i ≤ free.getD (out.getD i.toNat 0).toNat 0
  sep : ∀ i ∈ S, ∀ j ∈ S, i ≠ j → out.getD i.toNat 0 = out.getD j.toNat 0 → bT l i ≤ bF l j ∨ bT l j ≤ bF l i
  last : ∀ k, k < free.length → ∃ i ∈ S, out.getD i.toNat 0 = (k : Int) ∧ bT l i = free.getD k 0
  deep : free.length = 0 ∨ ∃ t, 0 ≤ t ∧ t < 60 ∧ free.length ≤ (S.filter (cv l t)).length
theorem greedy_nil (l : List S47) : Greedy l [] [] (List.replicate l.length 0) :=
  ⟨List.nodup_nil, by simp, by simp, by simp, by simp, by simp, by simp, .inl rfl⟩
theorem idxF_cases {α : Type} (p : α → Bool) (xs : List α) : (idxF p xs = -1 ∧ ∀ k (h : k < xs.length), p xs[k] = false) ∨ (∃ k, ∃ h : k < xs.length, idxF p xs = (k : Int) ∧ p xs[k] = true ∧ ∀ j (hj : j < k), p (xs[j]'(by omega)) = false) := by
  unfold idxF
  cases hf : xs.findIdx? p with
  | none =>
    left
    rw [List.findIdx?_eq_none_iff] at hf
    exact ⟨rfl, fun k h => by simpa using hf xs[k] (List.getElem_mem h)⟩
  | some k =>
    right
    rw [List.findIdx?_eq_some_iff_getElem] at hf
    obtain ⟨h, h1, h2⟩ := hf
    exact ⟨k, h, rfl, h1, fun j hj => by simpa using h2 j hj⟩
theorem getD_set_self {xs : List Int} {k : Nat} (h : k < xs.length) (x d : Int) : (xs.set k x).getD k d = x := by simp [List.getD_eq_getElem?_getD, h]
theorem getD_set_ne' {xs : List Int} {k j : Nat} (h : k ≠ j) (x d : Int) : (xs.set k x).getD j d = xs.getD j d := by simp [List.getD_eq_getElem?_getD, h]
theorem greedy_step {l : List S47} {S free out : List Int} {i : Int} (h : Greedy l S free out) (hB : Bks l) (hi : i ∉ S) (h0 : 0 ≤ i) (h1 : i < l.length) (hs : ∀ j ∈ S, bF l j ≤ bF l i) :
    Greedy l (S ++ [i]) (stepA l (free, out) i).1 (stepA l (free, out) i).2 := by
  have hb := hB i h0 h1
  have hil : i.toNat < out.length := by rw [h.len]; omega
  have nd' : (S ++ [i]).Nodup := by
    rw [List.nodup_append]
    exact ⟨h.nd, by simp, fun a ha b hb e => hi (by rw [List.mem_singleton] at hb; rw [← hb, ← e]; exact ha)⟩
  have rng' : ∀ j ∈ S ++ [i], 0 ≤ j ∧ j < l.length := fun j hj => by
    rcases List.mem_append.1 hj with hj | hj
    · exact h.rng j hj
    · rw [List.mem_singleton.1 hj]; exact ⟨h0, h1⟩
  have old : ∀ (v : Int) (j : Int), j ∈ S → (out.set i.toNat v).getD j.toNat 0 = out.getD j.toNat 0 := fun v j hj => by
    have hj0 := h.rng j hj
    refine getD_set_ne' (fun e => hi ?_) v 0
    rw [show i = j by omega]
    exact hj
  unfold stepA
  simp only
  rcases idxF_cases (fun t => decide (t ≤ (l.getD i.toNat z47).f0)) free with ⟨he, hno⟩ | ⟨k, hk, he, hyes, hlow⟩
  · rw [he, if_pos (by omega)]
    have hno' : ∀ k, k < free.length → bF l i < free.getD k 0 := fun k hk => by
      have := hno k hk
      rw [decide_eq_false_iff_not] at this
      rw [List.getD_eq_getElem?_getD, List.getElem?_eq_getElem hk]
      show (l.getD i.toNat z47).f0 < free[k]
      omega
    have fo : ∀ k, k < free.length → (free ++ [(l.getD i.toNat z47).f1]).getD k 0 = free.getD k 0 := fun k hk => by
      rw [List.getD_eq_getElem?_getD, List.getElem?_append_left hk, List.getD_eq_getElem?_getD]
    have fn : (free ++ [(l.getD i.toNat z47).f1]).getD free.length 0 = bT l i := by
      rw [List.getD_eq_getElem?_getD, List.getElem?_append_right (Nat.le_refl _)]; simp [bT]
    refine ⟨nd', rng', by simp [h.len], ?_, ?_, ?_, ?_, .inr ⟨bF l i, hb.1, by omega, ?_⟩⟩
    · intro j hj
      simp only [List.length_append, List.length_singleton]
      rcases List.mem_append.1 hj with hj | hj
      · rw [old _ j hj]; have := h.room j hj; omega
      · rw [List.mem_singleton.1 hj, getD_set_self hil]; omega
    · intro j hj
      rcases List.mem_append.1 hj with hj | hj
      · rw [old _ j hj]
        have hr := h.room j hj
        rw [fo _ (by omega)]
        exact h.upto j hj
      · rw [List.mem_singleton.1 hj, getD_set_self hil, Int.toNat_natCast, fn]
        exact Int.le_refl _
    · intro j hj q hq hne heq
      rcases List.mem_append.1 hj with hj | hj <;> rcases List.mem_append.1 hq with hq | hq
      · rw [old _ j hj, old _ q hq] at heq; exact h.sep j hj q hq hne heq
      · rw [old _ j hj, List.mem_singleton.1 hq, getD_set_self hil] at heq
        have := h.room j hj; omega
      · rw [old _ q hq, List.mem_singleton.1 hj, getD_set_self hil] at heq
        have := h.room q hq; omega
      · exact absurd ((List.mem_singleton.1 hj).trans (List.mem_singleton.1 hq).symm) hne
    · intro k hk
      simp only [List.length_append, List.length_singleton] at hk
      by_cases hkf : k < free.length
      · obtain ⟨j, hj, e1, e2⟩ := h.last k hkf
        exact ⟨j, List.mem_append_left _ hj, by rw [old _ j hj]; exact e1, by rw [fo k hkf]; exact e2⟩
      · obtain rfl : k = free.length := by omega
        exact ⟨i, List.mem_append_right _ (List.mem_singleton.2 rfl), getD_set_self hil _ _, fn.symm⟩
    · have hci : cv l (bF l i) i = true := by unfold cv; rw [decide_eq_true_eq]; omega
      rw [List.filter_append, List.filter_cons, if_pos hci, List.filter_nil, List.length_append, List.length_append, List.length_singleton, List.length_singleton]
      refine Nat.add_le_add_right ?_ 1
      have wit : ∀ k : Nat, ∃ j, k < free.length → j ∈ S ∧ out.getD j.toNat 0 = (k : Int) ∧ bT l j = free.getD k 0 := fun k => by
        by_cases hk : k < free.length
        · obtain ⟨j, hj⟩ := h.last k hk; exact ⟨j, fun _ => hj⟩
        · exact ⟨0, fun h => absurd h hk⟩
      let g : Nat → Int := fun k => Classical.choose (wit k)
      have hg : ∀ k, k < free.length → g k ∈ S ∧ out.getD (g k).toNat 0 = (k : Int) ∧ bT l (g k) = free.getD k 0 := fun k hk => Classical.choose_spec (wit k) hk
      have hle := inj_le g (List.range free.length) (S.filter (cv l (bF l i))) ?_ ?_
      · rwa [List.length_range] at hle
      · rw [List.Nodup, List.pairwise_map]
        refine List.Pairwise.imp_of_mem ?_ (List.nodup_range (n := free.length))
        intro a b ha hb hab e
        have h1 := (hg a (List.mem_range.1 ha)).2.1
        have h2 := (hg b (List.mem_range.1 hb)).2.1
        rw [e, h2] at h1
        omega
      · intro k hk
        have hk := List.mem_range.1 hk
        obtain ⟨hj, _, e2⟩ := hg k hk
        refine List.mem_filter.2 ⟨hj, ?_⟩
        unfold cv
        rw [decide_eq_true_eq, e2]
        exact ⟨hs _ hj, hno' k hk⟩
  · rw [he, if_neg (by omega), Int.toNat_natCast]
    have hle : free.getD k 0 ≤ bF l i := by
      rw [List.getD_eq_getElem?_getD, List.getElem?_eq_getElem hk]
      exact of_decide_eq_true hyes
    refine ⟨nd', rng', by simp [h.len], ?_, ?_, ?_, ?_, ?_⟩
    · intro j hj
      rw [List.length_set]
      rcases List.mem_append.1 hj with hj | hj
      · rw [old _ j hj]; exact h.room j hj
      · rw [List.mem_singleton.1 hj, getD_set_self hil]; omega
    · intro j hj
      rcases List.mem_append.1 hj with hj | hj
      · rw [old _ j hj]
        have hr := h.room j hj
        have hu := h.upto j hj
        by_cases e : k = (out.getD j.toNat 0).toNat
        · rw [← e, getD_set_self hk]
          rw [← e] at hu
          show bT l j ≤ bT l i
          omega
        · rw [getD_set_ne' e]; exact hu
      · rw [List.mem_singleton.1 hj, getD_set_self hil, Int.toNat_natCast, getD_set_self hk]
        exact Int.le_refl _
    · intro j hj q hq hne heq
      have key : ∀ j ∈ S, out.getD j.toNat 0 = (k : Int) → bT l j ≤ bF l i := fun j hj e => by
        have hu := h.upto j hj
        rw [e, Int.toNat_natCast] at hu
        omega
      rcases List.mem_append.1 hj with hj | hj <;> rcases List.mem_append.1 hq with hq | hq
      · rw [old _ j hj, old _ q hq] at heq; exact h.sep j hj q hq hne heq
      · rw [old _ j hj, List.mem_singleton.1 hq, getD_set_self hil] at heq
        rw [List.mem_singleton.1 hq]
        exact .inl (key j hj heq)
      · rw [old _ q hq, List.mem_singleton.1 hj, getD_set_self hil] at heq
        rw [List.mem_singleton.1 hj]
        exact .inr (key q hq heq.symm)
      · exact absurd ((List.mem_singleton.1 hj).trans (List.mem_singleton.1 hq).symm) hne
    · intro k' hk'
      rw [List.length_set] at hk'
      by_cases e : k = k'
      · subst e
        exact ⟨i, List.mem_append_right _ (List.mem_singleton.2 rfl), getD_set_self hil _ _, (getD_set_self hk _ _).symm⟩
      · obtain ⟨j, hj, e1, e2⟩ := h.last k' hk'
        exact ⟨j, List.mem_append_left _ hj, by rw [old _ j hj]; exact e1, by rw [getD_set_ne' e]; exact e2⟩
    · rw [List.length_set]
      rcases h.deep with hd | ⟨t, t0, t1, t2⟩
      · omega
      · refine .inr ⟨t, t0, t1, Nat.le_trans t2 ?_⟩
        rw [List.filter_append, List.length_append]
        omega
theorem greedy_fold {l : List S47} (hB : Bks l) : ∀ (rest S free out : List Int), Greedy l S free out → (S ++ rest).Nodup → (∀ i ∈ rest, 0 ≤ i ∧ i < l.length) → (S ++ rest).Pairwise (fun i j => bF l i ≤ bF l j) →
    Greedy l (S ++ rest) (rest.foldl (stepA l) (free, out)).1 (rest.foldl (stepA l) (free, out)).2
  | [], S, free, out, h, _, _, _ => by simpa using h
  | i :: rest, S, free, out, h, hn, hr, hp => by
    have hi := hr i (List.mem_cons_self)
    have hn' := hn
    rw [List.nodup_append] at hn'
    have hp' := hp
    rw [List.pairwise_append] at hp'
    have hst := greedy_step h hB (fun hm => hn'.2.2 i hm i (List.mem_cons_self) rfl) hi.1 hi.2 (fun j hj => hp'.2.2 j hj i (List.mem_cons_self))
    have e : S ++ i :: rest = (S ++ [i]) ++ rest := by simp
    rw [e] at hn hp ⊢
    rw [List.foldl_cons]
    exact greedy_fold hB rest (S ++ [i]) _ _ hst hn (fun j hj => hr j (List.mem_cons_of_mem _ hj)) hp
end Go.Proofs.Ytpjobcnfjpbaeaa.M

namespace Go.Proofs.Ytpjobcnfjpbaeaa.M
open Go.RowKit Go.Proofs.YtpjobcnfjpbaeaaW.PrintWords Go.Proofs.YtpjobcnfjpbaeaaW.PrintLast Go.Proofs.YtpjobcnfjpbaeaaW.PrintMore
open Go.Proofs.Ytpjobcnfjpbaeaa.PA Go.Proofs.Ytpjobcnfjpbaeaa.A Go.Sort
theorem iota_map (l : List S47) : (iota l.length).map (fun i : Int => l.getD i.toNat z47) = l := by
  apply List.ext_getElem?
  intro k
  simp only [iota, List.map_map, List.getElem?_map]
  by_cases hk : k < l.length
  · simp [List.getElem?_range, hk]
  · simp [hk]
theorem iota_nodup (n : Nat) : (iota n).Nodup := by
  unfold iota
  rw [List.Nodup, List.pairwise_map]
  exact List.Pairwise.imp (fun h e => h (by omega)) (List.nodup_range (n := n))
theorem mem_iota {n : Nat} {i : Int} : i ∈ iota n ↔ 0 ≤ i ∧ i < n := by
  unfold iota
  rw [List.mem_map]
  constructor
  · rintro ⟨k, hk, rfl⟩; have := List.mem_range.1 hk; omega
  · intro h; exact ⟨i.toNat, List.mem_range.2 (by omega), by omega⟩
theorem filt_cnt (l : List S47) (j : Nat) : ∀ S : List Int, ((S.filter (cv l (j : Int))).length : Int) = cntI (S.map (fun i => l.getD i.toNat z47)) j
  | [] => rfl
  | i :: S => by
    have ih := filt_cnt l j S
    rw [List.map_cons]
    have e : cntI (l.getD i.toNat z47 :: S.map (fun i => l.getD i.toNat z47)) j = covI (l.getD i.toNat z47) j + cntI (S.map (fun i => l.getD i.toNat z47)) j := by simp [cntI]
    rw [e, ← ih, List.filter_cons]
    by_cases h : bF l i ≤ (j : Int) ∧ (j : Int) < bT l i
    · have hc : cv l (j : Int) i = true := by unfold cv; rw [decide_eq_true_eq]; exact h
      have hv : covI (l.getD i.toNat z47) j = 1 := by unfold covI; exact if_pos h
      rw [if_pos hc, hv, List.length_cons]; omega
    · have hc : ¬ cv l (j : Int) i = true := by unfold cv; rw [decide_eq_true_eq]; exact h
      have hv : covI (l.getD i.toNat z47) j = 0 := by unfold covI; exact if_neg h
      rw [if_neg hc, hv]; omega
theorem Ord.perm {l : List S47} {ord : List Int} (h : Ord l ord) : ord.Perm (iota l.length) :=
  (List.perm_ext_iff_of_nodup h.nd (iota_nodup _)).2 (fun i => by rw [h.mem, mem_iota])
theorem Ord.cnt {l : List S47} {ord : List Int} (h : Ord l ord) (j : Nat) : ((ord.filter (cv l (j : Int))).length : Int) = cntI l j := by
  rw [(h.perm.filter _).length_eq, filt_cnt, iota_map]
end Go.Proofs.Ytpjobcnfjpbaeaa.M

namespace Go.Proofs.Ytpjobcnfjpbaeaa.N
open Go.RowKit Go.Proofs.YtpjobcnfjpbaeaaW.PrintWords Go.Proofs.YtpjobcnfjpbaeaaW.PrintLast Go.Proofs.YtpjobcnfjpbaeaaW.PrintMore
open Go.Proofs.Ytpjobcnfjpbaeaa.PA Go.Proofs.Ytpjobcnfjpbaeaa.M Go.Proofs.Ytpjobcnfjpbaeaa.A
def cntR (l : List S47) (t : Int) : Nat → Int
  | 0 => 0
  | i + 1 => cntR l t i + (if (l.getD i z47).f0 ≤ t ∧ t < (l.getD i z47).f1 then 1 else 0)
theorem cntR_bd (l : List S47) (t : Int) : ∀ i, 0 ≤ cntR l t i ∧ cntR l t i ≤ i
  | 0 => by simp [cntR]
  | i + 1 => by
    have := cntR_bd l t i
    unfold cntR
    split <;> omega
def bzR (l : List S47) : Nat → Int × Int
  | 0 => (0, 0)
  | t + 1 => if cntR l t l.length > (bzR l t).1 then (cntR l t l.length, t) else bzR l t
theorem bz_l1 {l : List S47} (hl : l.length ≤ 1000) {a b : Int} {t : Nat} (ht : t < 60) {r : Int × Int} (h : Ev (fun k => if cntR l t l.length > a then turndownref08_Busiest.l0 k l (cntR l t l.length) t ((t + 1 : Nat) : Int) else turndownref08_Busiest.l0 k l a b ((t + 1 : Nat) : Int)) r) :
    ∀ d i, i + d = l.length → Ev (fun k => turndownref08_Busiest.l1 k l a b (t : Int) (cntR l t i) (i : Int)) r := by
  intro d
  induction d with
  | zero =>
    intro i hi
    obtain rfl : i = l.length := by omega
    refine Ev.step (fun k => ?_) h
    have e : wrap64 ((t : Int) + 1) = ((t + 1 : Nat) : Int) := by unfold wrap64; omega
    rw [turndownref08_Busiest.l1, if_neg (by omega), e]
  | succ d ih =>
    intro i hi
    have hb := cntR_bd l t i
    have e : wrap64 ((i : Int) + 1) = ((i + 1 : Nat) : Int) := by unfold wrap64; omega
    have e2 : wrap64 (cntR l t i + 1) = cntR l t i + 1 := by unfold wrap64; omega
    refine Ev.step (fun k => ?_) (ih (i + 1) (by omega))
    rw [turndownref08_Busiest.l1, if_pos (by omega), if_pos (by omega), rdT47, e, e2, cntR]
    by_cases c1 : (l.getD i z47).f0 ≤ t
    · rw [if_pos c1]
      by_cases c2 : (t : Int) < (l.getD i z47).f1
      · rw [if_pos c2, if_pos ⟨c1, c2⟩]
      · rw [if_neg c2, if_neg (fun h => c2 h.2), Int.add_zero]
    · rw [if_neg c1, if_neg (fun h => c1 h.1), Int.add_zero]
theorem bz_ev {l : List S47} (hl : l.length ≤ 1000) : Ev (fun k => turndownref08_Busiest.f k l) (bzR l 60) := by
  have key : ∀ d t, t + d = 60 → Ev (fun k => turndownref08_Busiest.l0 k l (bzR l t).1 (bzR l t).2 (t : Int)) (bzR l 60) := by
    intro d
    induction d with
    | zero =>
      intro t ht
      obtain rfl : t = 60 := by omega
      refine Ev.step (f := fun _ => some (bzR l 60)) (fun k => ?_) (Ev.now _)
      rw [turndownref08_Busiest.l0, if_neg (by omega)]
    | succ d ih =>
      intro t ht
      have h1 := ih (t + 1) (by omega)
      refine Ev.step (fun k => ?_) (bz_l1 hl (show t < 60 by omega) (a := (bzR l t).1) (b := (bzR l t).2) (r := bzR l 60) ?_ l.length 0 (by omega))
      · rw [turndownref08_Busiest.l0, if_pos (by omega)]
        rfl
      · rw [bzR] at h1
        by_cases c : cntR l t l.length > (bzR l t).1
        · rw [if_pos c] at h1
          refine Ev.congr (fun k => ?_) h1
          rw [if_pos c]
        · rw [if_neg c] at h1
          refine Ev.congr (fun k => ?_) h1
          rw [if_neg c]
  exact key 60 0 rfl
end Go.Proofs.Ytpjobcnfjpbaeaa.N

namespace Go.Proofs.Ytpjobcnfjpbaeaa.N
open Go.RowKit Go.Proofs.YtpjobcnfjpbaeaaW.PrintWords Go.Proofs.YtpjobcnfjpbaeaaW.PrintLast Go.Proofs.YtpjobcnfjpbaeaaW.PrintMore
open Go.Proofs.Ytpjobcnfjpbaeaa.PA Go.Proofs.Ytpjobcnfjpbaeaa.M Go.Proofs.Ytpjobcnfjpbaeaa.A
def meetsB (x y : S47) : Bool := decide (x.f0 < y.f1) && decide (y.f0 < x.f1)
theorem meets_all (x y : S47) : turndownref08_meets.f x.f0 x.f1 x.f2 y.f0 y.f1 y.f2 = some (meetsB x y) := by
  unfold turndownref08_meets.f meetsB
  by_cases c : x.f0 < y.f1
  · rw [if_pos c]; simp [c]
  · rw [if_neg c]; simp [c]
def scanR (l : List S47) (out : List Int) (i : Nat) : List Int → Int × Bool → Int × Bool
  | [], s => s
  | d :: ds, s => if out.getD d.toNat 0 = s.1 ∧ meetsB (l.getD d.toNat z47) (l.getD i z47) = true then scanR l out i ds (s.1 + 1, true) else scanR l out i ds s
theorem scanR_flag (l : List S47) (out : List Int) (i : Nat) : ∀ (ds : List Int) (s : Int × Bool), s.2 = true → (scanR l out i ds s).2 = true
  | [], _, h => h
  | d :: ds, s, h => by
    unfold scanR
    split
    · exact scanR_flag l out i ds _ rfl
    · exact scanR_flag l out i ds _ h
theorem scanR_ge (l : List S47) (out : List Int) (i : Nat) : ∀ (ds : List Int) (s : Int × Bool), s.1 ≤ (scanR l out i ds s).1 ∧ (s.2 = false → (scanR l out i ds s).2 = true → s.1 < (scanR l out i ds s).1)
  | [], s => ⟨Int.le_refl _, fun h1 h2 => by rw [scanR] at h2; rw [h1] at h2; cases h2⟩
  | d :: ds, s => by
    unfold scanR
    split
    · have := scanR_ge l out i ds (s.1 + 1, true)
      exact ⟨by have := this.1; simp only at this; omega, fun _ _ => by have := this.1; simp only at this; omega⟩
    · exact scanR_ge l out i ds s
theorem scanR_le (l : List S47) (out : List Int) (i : Nat) {rs : Int} : ∀ (ds : List Int) (s : Int × Bool), (∀ d, d ∈ ds → out.getD d.toNat 0 = rs → meetsB (l.getD d.toNat z47) (l.getD i z47) = false) → s.1 ≤ rs → (scanR l out i ds s).1 ≤ rs
  | [], _, _, h => h
  | d :: ds, s, hf, h => by
    unfold scanR
    split
    · rename_i hc
      refine scanR_le l out i ds _ (fun d hd => hf d (List.mem_cons_of_mem _ hd)) ?_
      have : s.1 ≠ rs := fun e => by
        have := hf d (List.mem_cons_self) (hc.1.trans e)
        rw [hc.2] at this
        cases this
      simp only
      omega
    · exact scanR_le l out i ds s (fun d hd => hf d (List.mem_cons_of_mem _ hd)) h
theorem scanR_free (l : List S47) (out : List Int) (i : Nat) : ∀ (ds : List Int) (s : Int × Bool), s.2 = false → (scanR l out i ds s).2 = false → (scanR l out i ds s).1 = s.1 ∧ ∀ d, d ∈ ds → out.getD d.toNat 0 = s.1 → meetsB (l.getD d.toNat z47) (l.getD i z47) = false
  | [], s, _, _ => ⟨rfl, fun d hd => by cases hd⟩
  | d :: ds, s, h, h2 => by
    unfold scanR at h2 ⊢
    split at h2
    · have := scanR_flag l out i ds (s.1 + 1, true) rfl
      rw [this] at h2
      cases h2
    · rename_i hc
      rw [if_neg hc]
      obtain ⟨i1, i2⟩ := scanR_free l out i ds s h h2
      refine ⟨i1, fun d' hd e => ?_⟩
      rcases List.mem_cons.1 hd with rfl | hd
      · cases hm : meetsB (l.getD d'.toNat z47) (l.getD i z47) with
        | false => rfl
        | true => exact absurd ⟨e, hm⟩ hc
      · exact i2 d' hd e
theorem room_l3 {l : List S47} {out done : List Int} {many : Int} {t : Int} {i : Nat} (hl : l.length ≤ 1000) (ho : out.length = l.length) (hi : i < l.length) (hd : ∀ d, d ∈ done → 0 ≤ d ∧ d < l.length) (hdl : done.length ≤ 1000) {r : List Int × Int} {s' : Int × Bool}
    (h : Ev (fun k => turndownref08_Assign.l2 k l out many done t (i : Int) s'.1 s'.2) r) :
    ∀ e q (s : Int × Bool), q + e = done.length → 0 ≤ s.1 → s.1 ≤ q + 1000 → scanR l out i (done.drop q) s = s' → Ev (fun k => turndownref08_Assign.l3 k l out many done t (i : Int) s.1 s.2 (q : Int)) r := by
  intro e
  induction e with
  | zero =>
    intro q s hq _ _ hs
    rw [List.drop_of_length_le (by omega)] at hs
    refine Ev.step (fun k => ?_) h
    rw [turndownref08_Assign.l3, if_neg (by omega), ← hs]
    rfl
  | succ e ih =>
    intro q s hq h0 h1 hs
    have hql : q < done.length := by omega
    have hmem : done.getD q 0 ∈ done := by rw [List.getD_eq_getElem?_getD, List.getElem?_eq_getElem hql]; exact List.getElem_mem hql
    obtain ⟨d0, d1⟩ := hd _ hmem
    have hdr : done.drop q = done.getD q 0 :: done.drop (q + 1) := by
      have : done.getD q 0 = done[q] := by rw [List.getD_eq_getElem?_getD, List.getElem?_eq_getElem hql]; rfl
      rw [this, List.getElem_cons_drop]
    obtain ⟨d, hd'⟩ : ∃ d, done.getD q 0 = d := ⟨_, rfl⟩
    rw [hd'] at hdr d0 d1
    obtain ⟨dn, rfl⟩ := Int.eq_ofNat_of_zero_le d0
    rw [hdr, scanR, Int.toNat_natCast] at hs
    have e1 : wrap64 ((q : Int) + 1) = ((q + 1 : Nat) : Int) := by unfold wrap64; omega
    have e2 : wrap64 (s.1 + 1) = s.1 + 1 := by unfold wrap64; omega
    by_cases c : out.getD dn 0 = s.1 ∧ meetsB (l.getD dn z47) (l.getD i z47) = true
    · rw [if_pos c] at hs
      refine Ev.step (fun k => ?_) (ih (q + 1) (s.1 + 1, true) (by omega) (by simp only; omega) (by simp only; omega) hs)
      rw [turndownref08_Assign.l3, if_pos (by omega), if_pos (by omega), rdI, hd', if_pos d0, if_pos (by omega), rdI, if_pos c.1, if_pos d1, if_pos (by omega), if_pos (by omega), rdT47, rdT47, meets_all, c.2, Option.bind_some, if_pos rfl, e1, e2]
    · rw [if_neg c] at hs
      refine Ev.step (fun k => ?_) (ih (q + 1) s (by omega) h0 (by omega) hs)
      rw [turndownref08_Assign.l3, if_pos (by omega), if_pos (by omega), rdI, hd', if_pos d0, if_pos (by omega), rdI]
      by_cases c1 : out.getD dn 0 = s.1
      · have c2 : meetsB (l.getD dn z47) (l.getD i z47) = false := by
          cases hm : meetsB (l.getD dn z47) (l.getD i z47) with
          | false => rfl
          | true => exact absurd ⟨c1, hm⟩ c
        rw [if_pos c1, if_pos d1, if_pos (by omega), if_pos (by omega), rdT47, rdT47, meets_all, c2, Option.bind_some, if_neg (by simp), e1]
      · rw [if_neg c1, e1]
theorem room_l2 {l : List S47} {out done : List Int} {many : Int} {t : Int} {i : Nat} (hl : l.length ≤ 1000) (ho : out.length = l.length) (hi : i < l.length) (hd : ∀ d, d ∈ done → 0 ≤ d ∧ d < l.length) (hdl : done.length ≤ 1000) {r : List Int × Int} {rs : Int} (hrs : rs ≤ 1000)
    (hfree : ∀ d, d ∈ done → out.getD d.toNat 0 = rs → meetsB (l.getD d.toNat z47) (l.getD i z47) = false) (hmin : ∀ room, 0 ≤ room → room < rs → ∃ d, d ∈ done ∧ out.getD d.toNat 0 = room ∧ meetsB (l.getD d.toNat z47) (l.getD i z47) = true)
    (h : Ev (fun k => turndownref08_Assign.l1 k l (out.set i rs) (mx many (rs + 1)) (done ++ [(i : Int)]) t ((i + 1 : Nat) : Int)) r) :
    ∀ (n : Nat) (room : Int), 0 ≤ room → room ≤ rs → (rs - room).toNat ≤ n → Ev (fun k => turndownref08_Assign.l2 k l out many done t (i : Int) room true) r := by
  intro n
  induction n with
  | zero =>
    intro room h0 h1 h2
    obtain rfl : room = rs := by omega
    have hle := scanR_le l out i done (room, false) hfree (Int.le_refl _)
    have hge := scanR_ge l out i done (room, false)
    obtain ⟨s', hs'⟩ : ∃ s', scanR l out i done (room, false) = s' := ⟨_, rfl⟩
    rw [hs'] at hle hge
    have hf : s'.2 = false := by
      cases hc : s'.2 with
      | false => rfl
      | true => have := hge.2 rfl hc; simp only at this; omega
    have h1' : s'.1 = room := by have := hge.1; simp only at this; omega
    refine Ev.step (fun k => ?_) (room_l3 (many := many) (t := t) (s' := s') hl ho hi hd hdl ?_ done.length 0 (room, false) (by omega) h0 (by simp only; omega) hs')
    · rw [turndownref08_Assign.l2, if_pos rfl]; rfl
    · refine Ev.step (fun k => ?_) h
      have e : wrap64 ((i : Int) + 1) = ((i + 1 : Nat) : Int) := by unfold wrap64; omega
      have e2 : wrap64 (room + 1) = room + 1 := by unfold wrap64; omega
      rw [hf, h1', turndownref08_Assign.l2, if_neg (by simp), if_pos (by omega), if_pos (by omega), if_pos (by omega), e, e2, Int.toNat_natCast]
  | succ n ih =>
    intro room h0 h1 h2
    have hle := scanR_le l out i done (room, false) hfree h1
    have hge := scanR_ge l out i done (room, false)
    have hfr := scanR_free l out i done (room, false) rfl
    obtain ⟨s', hs'⟩ : ∃ s', scanR l out i done (room, false) = s' := ⟨_, rfl⟩
    rw [hs'] at hle hge hfr
    refine Ev.step (fun k => ?_) (room_l3 (many := many) (t := t) (s' := s') hl ho hi hd hdl ?_ done.length 0 (room, false) (by omega) h0 (by simp only; omega) hs')
    · rw [turndownref08_Assign.l2, if_pos rfl]; rfl
    · cases hc : s'.2 with
      | true =>
        have := hge.2 rfl hc
        simp only at this
        exact ih s'.1 (by omega) hle (by omega)
      | false =>
        obtain ⟨f1, f2⟩ := hfr hc
        have hrm : room = rs := by
          rcases Int.lt_or_le room rs with hlt | hge'
          · obtain ⟨d, hd1, hd2, hd3⟩ := hmin room h0 hlt
            rw [f2 d hd1 hd2] at hd3
            cases hd3
          · omega
        refine Ev.step (fun k => ?_) h
        have e : wrap64 ((i : Int) + 1) = ((i + 1 : Nat) : Int) := by unfold wrap64; omega
        have e2 : wrap64 (rs + 1) = rs + 1 := by unfold wrap64; omega
        simp only at f1
        rw [f1, hrm, turndownref08_Assign.l2, if_neg (by simp), if_pos (by omega), if_pos (by omega), if_pos (by omega), e, e2, Int.toNat_natCast]
end Go.Proofs.Ytpjobcnfjpbaeaa.N

namespace Go.Proofs.Ytpjobcnfjpbaeaa.N
open Go.RowKit Go.Proofs.YtpjobcnfjpbaeaaW.PrintWords Go.Proofs.YtpjobcnfjpbaeaaW.PrintLast Go.Proofs.YtpjobcnfjpbaeaaW.PrintMore
open Go.Proofs.Ytpjobcnfjpbaeaa.PA Go.Proofs.Ytpjobcnfjpbaeaa.M Go.Proofs.Ytpjobcnfjpbaeaa.A
def roomG (l : List S47) (free : List Int) (i : Int) : Int := if idxF (fun t => decide (t ≤ bF l i)) free < 0 then (free.length : Int) else idxF (fun t => decide (t ≤ bF l i)) free
theorem meetsB_iff (l : List S47) (d i : Int) : meetsB (l.getD d.toNat z47) (l.getD i.toNat z47) = true ↔ bF l d < bT l i ∧ bF l i < bT l d := by
  unfold meetsB bF bT
  simp
theorem room_free {l : List S47} {S free out : List Int} {i : Int} (h : Greedy l S free out) : ∀ d, d ∈ S → out.getD d.toNat 0 = roomG l free i → meetsB (l.getD d.toNat z47) (l.getD i.toNat z47) = false := by
  intro d hd he
  have h1 := h.room d hd
  have h2 := h.upto d hd
  rw [he] at h1 h2
  unfold roomG at h1 h2
  rcases idxF_cases (fun t => decide (t ≤ bF l i)) free with ⟨e, _⟩ | ⟨k, hk, e, hp, _⟩
  · rw [e, if_pos (by omega)] at h1
    omega
  · rw [e, if_neg (by omega)] at h2
    rw [Int.toNat_natCast, List.getD_eq_getElem?_getD, List.getElem?_eq_getElem hk] at h2
    simp only [Option.getD_some, decide_eq_true_eq] at h2 hp
    cases hm : meetsB (l.getD d.toNat z47) (l.getD i.toNat z47) with
    | false => rfl
    | true => have := (meetsB_iff l d i).1 hm; omega
theorem room_min {l : List S47} {S free out : List Int} {i : Int} (h : Greedy l S free out) (hB : Bks l) (h0 : 0 ≤ i) (h1 : i < l.length) (hs : ∀ j ∈ S, bF l j ≤ bF l i) : ∀ room, 0 ≤ room → room < roomG l free i → ∃ d, d ∈ S ∧ out.getD d.toNat 0 = room ∧ meetsB (l.getD d.toNat z47) (l.getD i.toNat z47) = true := by
  intro room r0 r1
  obtain ⟨k, rfl⟩ := Int.eq_ofNat_of_zero_le r0
  have hb := hB i h0 h1
  have key : ∃ hk : k < free.length, bF l i < free[k] := by
    unfold roomG at r1
    rcases idxF_cases (fun t => decide (t ≤ bF l i)) free with ⟨e, hn⟩ | ⟨m, hm, e, _, hn⟩
    · rw [e, if_pos (by omega)] at r1
      have hk : k < free.length := by omega
      have := hn k hk
      simp only [decide_eq_false_iff_not] at this
      exact ⟨hk, by omega⟩
    · rw [e, if_neg (by omega)] at r1
      have hk : k < m := by omega
      have := hn k hk
      simp only [decide_eq_false_iff_not] at this
      exact ⟨by omega, by omega⟩
  obtain ⟨hk, hlt⟩ := key
  obtain ⟨d, hd, e1, e2⟩ := h.last k hk
  rw [List.getD_eq_getElem?_getD, List.getElem?_eq_getElem hk] at e2
  simp only [Option.getD_some] at e2
  refine ⟨d, hd, e1, (meetsB_iff l d i).2 ⟨?_, by omega⟩⟩
  have := hs d hd
  omega
theorem stepA_out (l : List S47) (free out : List Int) (i : Int) : (stepA l (free, out) i).2 = out.set i.toNat (roomG l free i) := by
  unfold stepA roomG bF
  split <;> rfl
theorem stepA_many (l : List S47) (free out : List Int) (i : Int) : ((stepA l (free, out) i).1.length : Int) = mx (free.length : Int) (roomG l free i + 1) := by
  have hr := idxF_range (fun t => decide (t ≤ bF l i)) free
  unfold stepA roomG mx
  unfold bF at hr ⊢
  split
  · rename_i hc
    simp
    try omega
  · rename_i hc
    simp only [List.length_set]
    split <;> omega
end Go.Proofs.Ytpjobcnfjpbaeaa.N

namespace Go.Proofs.Ytpjobcnfjpbaeaa.N
open Go.RowKit Go.Proofs.YtpjobcnfjpbaeaaW.PrintWords Go.Proofs.YtpjobcnfjpbaeaaW.PrintLast Go.Proofs.YtpjobcnfjpbaeaaW.PrintMore
open Go.Proofs.Ytpjobcnfjpbaeaa.PA Go.Proofs.Ytpjobcnfjpbaeaa.M Go.Proofs.Ytpjobcnfjpbaeaa.A
def nightL (l : List S47) (t : Nat) : Nat → List Nat
  | 0 => []
  | i + 1 => nightL l t i ++ (if (l.getD i z47).f0 = (t : Int) then [i] else [])
def doneL (l : List S47) : Nat → List Nat
  | 0 => []
  | t + 1 => doneL l t ++ nightL l t l.length
theorem night_mem {l : List S47} {t : Nat} : ∀ {i x : Nat}, x ∈ nightL l t i ↔ x < i ∧ (l.getD x z47).f0 = (t : Int)
  | 0, x => by simp [nightL]
  | i + 1, x => by
    unfold nightL
    rw [List.mem_append, night_mem]
    split
    · rename_i h
      simp only [List.mem_singleton]
      constructor
      · rintro (h1 | rfl)
        · exact ⟨by omega, h1.2⟩
        · exact ⟨by omega, h⟩
      · intro h1
        by_cases e : x = i
        · exact .inr e
        · exact .inl ⟨by omega, h1.2⟩
    · rename_i h
      simp only [List.not_mem_nil, or_false]
      constructor
      · intro h1; exact ⟨by omega, h1.2⟩
      · intro h1
        refine ⟨?_, h1.2⟩
        rcases Nat.lt_or_ge x i with h2 | h2
        · exact h2
        · exfalso; apply h; rw [show i = x by omega]; exact h1.2
theorem done_mem {l : List S47} (hB : ∀ i, i < l.length → 0 ≤ (l.getD i z47).f0) : ∀ {t x : Nat}, x ∈ doneL l t ↔ x < l.length ∧ (l.getD x z47).f0 < (t : Int)
  | 0, x => by
    simp only [doneL, List.not_mem_nil, false_iff]
    intro h
    have := hB x h.1
    omega
  | t + 1, x => by
    unfold doneL
    rw [List.mem_append, done_mem hB, night_mem]
    omega
theorem night_srt (l : List S47) (t : Nat) : ∀ i, Srt (keyS l) (nightL l t i)
  | 0 => Srt.nil
  | i + 1 => by
    unfold nightL
    refine Srt.append.2 ⟨night_srt l t i, ?_, fun x hx y hy => ?_⟩
    · split
      · exact List.pairwise_singleton _ _
      · exact Srt.nil
    · split at hy
      · rename_i h
        obtain ⟨h1, h2⟩ := night_mem.1 hx
        rw [List.mem_singleton.1 hy]
        exact .inr ⟨h2.trans h.symm, h1⟩
      · cases hy
theorem done_srt {l : List S47} (hB : ∀ i, i < l.length → 0 ≤ (l.getD i z47).f0) : ∀ t, Srt (keyS l) (doneL l t)
  | 0 => Srt.nil
  | t + 1 => by
    unfold doneL
    refine Srt.append.2 ⟨done_srt hB t, night_srt l t _, fun x hx y hy => .inl ?_⟩
    have h1 := ((done_mem hB).1 hx).2
    have h2 := (night_mem.1 hy).2
    show (l.getD x z47).f0 < (l.getD y z47).f0
    omega
theorem done_ord {l : List S47} (hB : ∀ i, i < l.length → 0 ≤ (l.getD i z47).f0 ∧ (l.getD i z47).f0 < 60) : doneL l 60 = ordL (keyS l) l.length := by
  have hs := done_srt (fun i hi => (hB i hi).1) 60
  refine ordL_unique ((List.perm_ext_iff_of_nodup (hs.imp (fun {a b} h e => by subst e; exact h.asymm h)) List.nodup_range).2 (fun x => ?_)) hs
  rw [done_mem (fun i hi => (hB i hi).1), List.mem_range]
  constructor
  · exact fun h => h.1
  · intro h
    have := hB x h
    exact ⟨h, by omega⟩
end Go.Proofs.Ytpjobcnfjpbaeaa.N
