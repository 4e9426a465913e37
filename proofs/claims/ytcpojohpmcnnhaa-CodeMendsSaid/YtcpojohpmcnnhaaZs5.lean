/- What the statements of this seat lean on: the functions that they reach, walked. -/
import Derived.Test.YtcpojohpmcnnhaaZs4
set_option linter.unusedSimpArgs false
set_option linter.unusedVariables false

set_option linter.unusedVariables false
set_option linter.unusedSimpArgs false
namespace Go.Proofs.Ytcpojohpmcnnhaa.A
open Go.RowKit Go.Proofs.YtcpojohpmcnnhaaW.PrintWords Go.Proofs.YtcpojohpmcnnhaaW.PrintLast Go.Proofs.YtcpojohpmcnnhaaW.PrintMore
open Go.Proofs.Ytcpojohpmcnnhaa.PA
theorem symMerge_c {key : Nat → Int} {enc : Nat → Value} (henc : ∀ x, ∃ v, enc x = .int .i64 v) {tail : List Value} {blk cap n g : Nat} {cb : Array Value} {w0 : World} (eg : Enters g) (hC : CmpS key enc n blk g cb w0) (N : Nat) (hn : N < 1000000) : ∀ K, MergeAt key enc tail blk cap n g cb w0 N K := by
  intro K
  induction K with
  | zero => intro P X Y S L a m b w _ hK _ _ _ _ _ _ h1 _; omega
  | succ K ih =>
  intro P X Y S L a m b w hL hK hK0 h hN ha hm hb hX0 hY0 hX hY hxy hxn hyn
  subst hL
  by_cases hx1 : X.length = 1
  · obtain ⟨x, rfl⟩ := List.length_eq_one_iff.1 hx1
    subst ha hm hb
    exact merge1_c henc eg hC P x Y S N w hK0 h hN hn hY0 hY (hxy x (by simp)) (hxn x (by simp)) hyn
  by_cases hy1 : Y.length = 1
  · obtain ⟨y, rfl⟩ := List.length_eq_one_iff.1 hy1
    subst ha hm hb
    exact merge2_c henc eg hC P X y S N w hK0 h hN hn (by omega) hX (fun x hx => hxy x hx y (by simp)) hxn (hyn y (by simp))
  by_cases hs : (P.length + (P.length + X.length + Y.length)) / 2 < P.length + X.length
  · exact symMerge_gt henc eg hC N hn K ih P X Y S a m b w hK hK0 h hN ha hm hb hX0 hY0 hX hY hxy hxn hyn hx1 hy1 hs
  · exact symMerge_le henc eg hC N hn K ih P X Y S a m b w hK hK0 h hN ha hm hb hX0 hY0 hX hY hxy hxn hyn hx1 hy1 hs
end Go.Proofs.Ytcpojohpmcnnhaa.A

set_option linter.unusedVariables false
set_option linter.unusedSimpArgs false
namespace Go.Proofs.Ytcpojohpmcnnhaa.A
open Go.RowKit Go.Proofs.YtcpojohpmcnnhaaW.PrintWords Go.Proofs.YtcpojohpmcnnhaaW.PrintLast Go.Proofs.YtcpojohpmcnnhaaW.PrintMore
open Go.Proofs.Ytcpojohpmcnnhaa.PA
set_option maxHeartbeats 8000000 in
set_option maxRecDepth 100000 in
theorem insert_none (N cap blk : Nat) (f : Value) (a : Nat) (w : World) (ha : a < 1000000) :
    Calls Try.prog 99 #[.slice (some ⟨blk, 0, none⟩) N cap, .int .i64 (a : Int), .int .i64 (a : Int), f] w fun e w' => e = .returned (.tuple #[]) ∧ w' = w := by
  have wa := wr_small (x := a + 1) (by omega)
  have h1 : ¬ ((a : Int) + 1 < (a : Int)) := by omega
  go_enter Try.func99, Try.ntmps99
  go_wp2_with fail
  refine wp_loop_rounds 1 ?_
  rw [rounds_succ]
  go_wp2_with fail
  go_end0
  exact ⟨rfl, rfl⟩
set_option maxHeartbeats 8000000 in
set_option maxRecDepth 100000 in
theorem insert_c {key : Nat → Int} {enc : Nat → Value} (henc : ∀ x, ∃ v, enc x = .int .i64 v) {tail : List Value} {blk cap n g : Nat} {cb : Array Value} {w0 : World} (eg : Enters g) (hC : CmpS key enc n blk g cb w0)
    (P X S : List Nat) (N : Nat) (w : World) (hK0 : R.Keeps [blk] w0 w) (h : RowS enc 3 tail blk (P ++ (X ++ S)) w) (hN : (P ++ (X ++ S)).length = N) (hn : N < 1000000)
    (hX0 : 0 < X.length) (hX : X.Pairwise (· < ·)) (hxn : ∀ x, x ∈ X → x < n) :
    Calls Try.prog 99 #[.slice (some ⟨blk, 0, none⟩) N cap, .int .i64 (P.length : Int), .int .i64 ((P.length + X.length : Nat) : Int), .func (.func g) #[] cb] w (Merged key enc tail blk P X [] S w) := by
  unfold Enters at eg
  have mixed : Try.prog.follows Departure.mixedOrders = true := by kernel_rfl
  have hNs : P.length + X.length + S.length = N := by rw [← hN]; simp; omega
  have HR0 := Lib.hid h
  have HC := Lib.hid hC
  have HK0 := Lib.hid hK0
  have HX := Lib.hid hX
  have HXN := Lib.hid hxn
  obtain ⟨a, ha⟩ : ∃ a, P.length = a := ⟨_, rfl⟩
  obtain ⟨l, hl⟩ : ∃ l, X.length = l := ⟨_, rfl⟩
  rw [ha, hl] at hNs
  rw [hl] at hX0
  rw [ha, hl]
  have HL := Lib.hid (And.intro ha hl)
  clear h hC hK0 hX hxn hN ha hl
  obtain ⟨b, hb⟩ : ∃ b, a + l = b := ⟨_, rfl⟩
  obtain ⟨a1, ha1⟩ : ∃ a1, a + 1 = a1 := ⟨_, rfl⟩
  rw [hb]
  have e1 : (a : Int) + 1 = (a1 : Int) := by omega
  have wa := wr_small (x := a1) (by omega)
  go_enter Try.func99, Try.ntmps99
  go_wp2_with fail
  go_loopw [8] (fun v8 wr => ∃ (A B A' : List Nat), v8 = .int .i64 ((a + A.length : Nat) : Int) ∧ 0 < A.length ∧ A.length + B.length = l ∧ Hid (X = A ++ B ∧ A'.Perm A ∧ Srt key A') ∧ Hid (RowS enc 3 tail blk (P ++ (A' ++ (B ++ S))) wr) ∧ Hid (R.Keeps [blk] w wr)) (fun v8 _ => b - (intOf v8).toNat)
  case atStart =>
    obtain ⟨x, X', hx⟩ : ∃ x X', X = x :: X' := by
      cases X with
      | nil => have := HL.out.2; simp at this; omega
      | cons x X' => exact ⟨x, X', rfl⟩
    exact ⟨[x], X', [x], by rw [← ha1]; rfl, by simp, by have := HL.out.2; rw [hx] at this; simp at this ⊢; omega, Lib.hid ⟨hx, List.Perm.refl _, List.pairwise_singleton _ _⟩, Lib.hid (by have := HR0.out; rw [hx] at this; exact this), Lib.hid (R.Keeps.refl _ _)⟩
  case round =>
    rename World => wr
    obtain ⟨A, B, A', rfl, hA0, hAB, HD, HR, HK⟩ := hrel
    obtain ⟨i, hi⟩ : ∃ i, a + A.length = i := ⟨_, rfl⟩
    rw [hi]
    by_cases hlt : i < b
    · have hlt' : (i : Int) < (b : Int) := by omega
      obtain ⟨x, B', rfl⟩ : ∃ x B', B = x :: B' := by
        cases B with
        | nil => simp at hAB; omega
        | cons x B' => exact ⟨x, B', rfl⟩
      have hlx : ∀ y, y ∈ A' → y < x := fun y hy => by
        have h1 := HX.out
        rw [HD.out.1] at h1
        exact (List.pairwise_append.1 h1).2.2 y (HD.out.2.1.subset hy) x (by simp)
      have hxx : x < n := HXN.out x (by rw [HD.out.1]; simp)
      have HLX := Lib.hid hlx
      clear hlx
      go_wp2_with fail
      go_loopw [9] (fun v9 wq => ∃ (C D : List Nat), v9 = .int .i64 ((a + C.length : Nat) : Int) ∧ C.length + D.length = A.length ∧ Hid (A' = C ++ D ∧ (D = [] ∨ lx key x (D.getD 0 0))) ∧ Hid (RowS enc 3 tail blk (P ++ (C ++ (x :: (D ++ (B' ++ S))))) wq) ∧ Hid (R.Keeps [blk] w wq)) (fun v9 _ => (intOf v9).toNat)
      case atStart => exact ⟨A', [], by rw [HD.out.2.1.length_eq, hi], by rw [HD.out.2.1.length_eq]; rfl, Lib.hid ⟨by simp, .inl rfl⟩, HR, HK⟩
      case round =>
        rename World => wq
        obtain ⟨C, D, rfl, hCD, HE, HRq, HKq⟩ := hrel
        have OUT : C = [] ∨ lx key (C.getD (C.length - 1) 0) x → Hid ((C ++ x :: D).Perm (A ++ [x]) ∧ Srt key (C ++ x :: D)) := fun hc => by
          refine Lib.hid ⟨?_, ?_⟩
          · refine List.perm_middle.trans ?_
            rw [← HE.out.1]
            exact ((List.perm_cons x).2 HD.out.2.1).trans (List.perm_append_comm (l₁ := [x]) (l₂ := A))
          · have h1 := HD.out.2.2
            rw [HE.out.1] at h1
            exact put_in h1 hc HE.out.2
        have OUTH := Lib.hid OUT
        clear OUT
        by_cases hc0 : C = []
        · subst hc0
          obtain ⟨j, hj⟩ : ∃ j, a + ([] : List Nat).length = j := ⟨_, rfl⟩
          rw [hj]
          have j1 : ¬ ((a : Int) < (j : Int)) := by rw [← hj]; simp
          have j2 : decide ((a : Int) < (j : Int)) = false := decide_eq_false j1
          have j3 : decide ((j : Int) > (a : Int)) = false := decide_eq_false j1
          have HD4 : Hid (decide (a < j) = false) := Lib.hid (decide_eq_false (by rw [← hj]; simp))
          have HO := OUTH.out (.inl rfl)
          obtain ⟨i2, hi2⟩ : ∃ i2, i + 1 = i2 := ⟨_, rfl⟩
          have e5 : (i : Int) + 1 = (i2 : Int) := by omega
          have w5 := wr_small (x := i2) (by omega)
          have HOH := Lib.hid HO
          clear HO hj
          go_wp2_with fail
          apply R.wp_region_text [0, 1, 2, 3, 4, 5, 6, 7, 8, 9, 10, 11, 12, 13] [14, 15, 16] 17 (R.Keeps [] wq)
          case hm => kernel_rfl
          case hB => kernel_rfl
          case hd => rfl
          case hQ => exact fun _ _ _ _ _ h => h
          case hS => exact (R.Keeps.refl _ _).drew
          case hF =>
            intro w' hS
            clear hS
            simp only [R.pickC, List.filterMap_cons, List.getElem?_toArray, List.getElem?_cons_zero, List.getElem?_cons_succ, List.filterMap_nil]
            (with_reducible refine R.wpStill_plain rfl (fun K hK => ?_)); go_simp; with_reducible refine hK _ ?_; clear hK K
            (with_reducible refine R.wpStill_plain rfl (fun K hK => ?_)); go_simp; with_reducible refine hK _ ?_; clear hK K
            (with_reducible refine R.wpStill_plain rfl (fun K hK => ?_)); go_simp; with_reducible refine hK _ ?_; clear hK K
            (with_reducible refine R.wpStill_plain rfl (fun K hK => ?_)); go_simp; with_reducible refine hK _ ?_; clear hK K
            refine R.wpStill_no rfl (by exact rfl) (by rw [HD4.out]; rfl) ?_; simp only [Act.put, List.setIfInBounds_toArray, List.set_cons_zero, List.set_cons_succ]
            refine R.wpStill_no rfl (by exact rfl) (by rw [HD4.out]; rfl) ?_; simp only [Act.put, List.setIfInBounds_toArray, List.set_cons_zero, List.set_cons_succ]
            refine R.wpStill_no rfl (by exact rfl) (by rw [HD4.out]; rfl) ?_; simp only [Act.put, List.setIfInBounds_toArray, List.set_cons_zero, List.set_cons_succ]
            refine R.wpStill_no rfl (by exact rfl) (by rw [HD4.out]; rfl) ?_; simp only [Act.put, List.setIfInBounds_toArray, List.set_cons_zero, List.set_cons_succ]
            refine R.wpStill_no rfl (by exact rfl) (by rw [HD4.out]; rfl) ?_; simp only [Act.put, List.setIfInBounds_toArray, List.set_cons_zero, List.set_cons_succ]
            refine R.wpStill_no rfl (by exact rfl) (by rw [HD4.out]; rfl) ?_; simp only [Act.put, List.setIfInBounds_toArray, List.set_cons_zero, List.set_cons_succ]
            refine R.wpStill_no rfl (by exact rfl) (by rw [HD4.out]; rfl) ?_; simp only [Act.put, List.setIfInBounds_toArray, List.set_cons_zero, List.set_cons_succ]
            refine R.wpStill_no rfl (by exact rfl) (by rw [HD4.out]; rfl) ?_; simp only [Act.put, List.setIfInBounds_toArray, List.set_cons_zero, List.set_cons_succ]
            refine R.wpStill_no rfl (by exact rfl) (by rw [HD4.out]; rfl) ?_; simp only [Act.put, List.setIfInBounds_toArray, List.set_cons_zero, List.set_cons_succ]
            refine R.wpStill_no rfl (by exact rfl) (by rw [HD4.out]; rfl) ?_; simp only [Act.put, List.setIfInBounds_toArray, List.set_cons_zero, List.set_cons_succ]
            exact wpStill_nil rfl
          case hC =>
            simp only [R.chainOf, List.getElem?_toArray, List.getElem?_cons_zero, List.getElem?_cons_succ, Nat.reduceBNe, Bool.and_true, Bool.and_false, Bool.false_and]
            rw [HD4.out]
            refine R.wpSeq_same (fun K hK => ?_)
            rw [if_neg (by exact Bool.false_ne_true)]
            refine hK _ _ ((R.Keeps.refl _ _).drew) ?_
            clear hK K
            simp only [Act.put, List.setIfInBounds_toArray, List.set_cons_zero, List.set_cons_succ]
            refine R.wpSeq_same (fun K hK => ?_)
            rw [if_neg (by exact Bool.false_ne_true)]
            refine hK _ _ ((R.Keeps.refl _ _).drew) ?_
            clear hK K
            simp only [Act.put, List.setIfInBounds_toArray, List.set_cons_zero, List.set_cons_succ]
            refine R.wpSeq_same (fun K hK => ?_)
            go_simp
            with_reducible refine hK _ _ ((R.Keeps.refl _ _).drew) ?_
            clear hK K
            refine R.wpSeq_nil ?_
            go_wp2_with fail
            refine ⟨⟨A ++ [x], B', [] ++ x :: D, by simp; omega, by simp, by simp at hAB ⊢; omega, Lib.hid ⟨by rw [HD.out.1]; simp, HOH.out.out.1, HOH.out.out.2⟩, Lib.hid (by have := HRq.out.keep (R.Keeps.refl [] _).drew; simpa using this), Lib.hid HKq.out.drew⟩, by simp [intOf]; omega⟩
        · obtain ⟨C', c, rfl⟩ : ∃ C' c, C = C' ++ [c] := ⟨C.dropLast, C.getLast hc0, (List.dropLast_concat_getLast hc0).symm⟩
          obtain ⟨j, hj⟩ : ∃ j, a + (C' ++ [c]).length = j := ⟨_, rfl⟩
          rw [hj]
          have hjc : a + C'.length + 1 = j := by rw [← hj]; simp; omega
          obtain ⟨jp, hjp⟩ : ∃ jp, jp + 1 = j := ⟨j - 1, by omega⟩
          have j1 : (a : Int) < (j : Int) := by omega
          have j2 : decide ((a : Int) < (j : Int)) = true := decide_eq_true j1
          have e6 : (j : Int) - 1 = (jp : Int) := by omega
          have w6 := wr_small (x := jp) (by omega)
          have hCl : (C' ++ [c]).length = C'.length + 1 := by simp
          rw [hCl] at hCD
          have b1 : (j : Int) < (N : Int) := by simp at hAB; omega
          have b2 : (jp : Int) < (N : Int) := by omega
          have hsp : P ++ ((C' ++ [c]) ++ (x :: (D ++ (B' ++ S)))) = (P ++ C') ++ c :: ([] ++ x :: (D ++ (B' ++ S))) := by simp
          have hpa : jp = (P ++ C').length := by simp [HL.out.1]; omega
          have hpb : j = (P ++ C').length + 1 + ([] : List Nat).length := by rw [← hpa]; simp; omega
          have c1 : wq.cell? ⟨blk, jp, none⟩ = some (enc c) := HRq.out.cell hsp hpa
          have c2 : wq.cell? ⟨blk, j, none⟩ = some (enc x) := HRq.out.cell (A := (P ++ C') ++ [c]) (x := x) (B := D ++ (B' ++ S)) (by simp) (by rw [hpb]; simp; omega)
          have hcx : c < x := HLX.out c (by rw [HE.out.1]; simp)
          have hcn : c < n := by omega
          have hlast : (C' ++ [c]).getD ((C' ++ [c]).length - 1) 0 = c := by simp [List.getD_eq_getElem?_getD]
          have HLA := Lib.hid hlast
          obtain ⟨eu, heu⟩ := henc x
          obtain ⟨ev, hev⟩ := henc c
          rw [heu] at c2
          rw [hev] at c1
          have CE : Hid (∀ w', R.Keeps [] wq w' → w'.cell? ⟨blk, j, none⟩ = some (.int .i64 eu) ∧ w'.cell? ⟨blk, jp, none⟩ = some (.int .i64 ev)) := Lib.hid (fun w' hw => ⟨hw.cell c2 (by simp), hw.cell c1 (by simp)⟩)
          have HKW := Lib.hid (HK0.out.trans HKq.out (fun k hk _ => hk))
          have HEN := Lib.hid (And.intro heu hev)
          have HSP := Lib.hid (And.intro hsp (And.intro hpa hpb))
          have HJ := Lib.hid hjc
          obtain ⟨i2, hi2⟩ : ∃ i2, i + 1 = i2 := ⟨_, rfl⟩
          have e5 : (i : Int) + 1 = (i2 : Int) := by omega
          have w5 := wr_small (x := i2) (by omega)
          clear hj hsp hpa hpb heu hev c1 c2 hlast hCl
          go_wp2_with fail
          apply R.wp_region_text [0, 1, 2, 3, 4, 5, 6, 7, 8, 9, 10, 11, 12, 13] [14, 15, 16] 17 (R.Keeps [] wq)
          case hm => kernel_rfl
          case hB => kernel_rfl
          case hd => rfl
          case hQ => exact fun _ _ _ _ _ h => h
          case hS => exact (R.Keeps.refl _ _).drew
          case hF =>
            intro w' hS
            obtain ⟨y0, y1⟩ := CE.out w' hS
            clear hS
            simp only [R.pickC, List.filterMap_cons, List.getElem?_toArray, List.getElem?_cons_zero, List.getElem?_cons_succ, List.filterMap_nil]
            (with_reducible refine R.wpStill_plain rfl (fun K hK => ?_)); go_simp; with_reducible refine hK _ ?_; clear hK K
            (with_reducible refine R.wpStill_plain rfl (fun K hK => ?_)); go_simp; with_reducible refine hK _ ?_; clear hK K
            (with_reducible refine R.wpStill_plain rfl (fun K hK => ?_)); go_simp; with_reducible refine hK _ ?_; clear hK K
            (with_reducible refine R.wpStill_plain rfl (fun K hK => ?_)); go_simp; with_reducible refine hK _ ?_; clear hK K
            (refine R.wpStill_yes rfl (by exact rfl) (fun K hK => ?_)); go_simp; with_reducible refine hK _ ?_; clear hK K
            (refine R.wpStill_yes rfl (by exact rfl) (fun K hK => ?_)); go_simp; with_reducible refine hK _ ?_; clear hK K
            (refine R.wpStill_yes rfl (by exact rfl) (fun K hK => ?_)); go_simp; with_reducible refine hK _ ?_; clear hK K
            (refine R.wpStill_yes rfl (by exact rfl) (fun K hK => ?_)); go_simp; with_reducible refine hK _ ?_; clear hK K
            (refine R.wpStill_yes rfl (by exact rfl) (fun K hK => ?_)); go_simp; with_reducible refine hK _ ?_; clear hK K
            (refine R.wpStill_yes rfl (by exact rfl) (fun K hK => ?_)); go_simp; with_reducible refine hK _ ?_; clear hK K
            (refine R.wpStill_yes rfl (by exact rfl) (fun K hK => ?_)); go_simp; with_reducible refine hK _ ?_; clear hK K
            (refine R.wpStill_yes rfl (by exact rfl) (fun K hK => ?_)); go_simp; with_reducible refine hK _ ?_; clear hK K
            (refine R.wpStill_yes rfl (by exact rfl) (fun K hK => ?_)); go_simp; with_reducible refine hK _ ?_; clear hK K
            (refine R.wpStill_yes rfl (by exact rfl) (fun K hK => ?_)); go_simp; with_reducible refine hK _ ?_; clear hK K
            exact wpStill_nil rfl
          case hC =>
            simp only [R.chainOf, List.getElem?_toArray, List.getElem?_cons_zero, List.getElem?_cons_succ, Nat.reduceBNe, Bool.and_true, Bool.and_false, Bool.false_and]
            refine R.wpSeq_same (fun K hK => ?_)
            go_simp
            rw [← HEN.out.1, ← HEN.out.2]
            refine (HC.out _ HKW.out.drew x c hxx hcn).mono ?_
            rintro e w2 ⟨cr, rfl, hcr, hB2⟩
            have hK2 : R.Keeps [] wq w2 := ((R.Keeps.refl [] _).drew).trans (R.Keeps.of_below [] hB2) (fun k hk => by simp at hk)
            refine hK _ _ hK2 ?_
            clear hK K
            have HK2 := Lib.hid hK2
            clear hB2 hK2
            by_cases hneg : cr < 0
            · have HNEG : Hid (lx key x c) := Lib.hid (.inl (hcr.1 hneg))
              clear hcr
              refine R.wpSeq_same (fun K hK => ?_)
              go_simp
              with_reducible refine hK _ _ HK2.out ?_
              clear hK K
              refine R.wpSeq_same (fun K hK => ?_)
              go_simp
              with_reducible refine hK _ _ HK2.out ?_
              clear hK K
              refine R.wpSeq_nil ?_
              have HR2 := Lib.hid (HRq.out.keep HK2.out)
              obtain ⟨c2, c1⟩ := CE.out w2 HK2.out
              have f1 := HR2.out.frozen jp
              have f2 := HR2.out.frozen j
              go_wp2_with fail
              go_big_region_o
              all_goals go_wp2_with fail
              all_goals
                refine ⟨⟨C', c :: D, by congr 1; omega, by simp at hCD ⊢; omega, Lib.hid ⟨by rw [HE.out.1]; simp, .inr HNEG.out⟩, ?_, Lib.hid (((((HKq.out.trans HK2.out (fun k hk => by simp at hk))).setCell (by simp) _).setCell (by simp) _).drew)⟩, by simp [intOf]; omega⟩
                have h5 := HR2.out.swap HSP.out.1 HSP.out.2.1 HSP.out.2.2
                rw [HEN.out.1, HEN.out.2, setCell_comm _ (by omega)] at h5
                exact Lib.hid (by simpa using h5.keep ((R.Keeps.refl [] _).drew))
            · have HNEG : Hid (lx key c x) := Lib.hid (lx.not (fun hh => hneg (hcr.2 ((lx_right hcx).1 hh))) (by omega))
              have hnn' : decide (cr < 0) = false := decide_eq_false hneg
              clear hcr
              refine R.wpSeq_same (fun K hK => ?_)
              go_simp
              with_reducible refine hK _ _ HK2.out ?_
              clear hK K
              refine R.wpSeq_same (fun K hK => ?_)
              go_simp
              with_reducible refine hK _ _ HK2.out ?_
              clear hK K
              refine R.wpSeq_nil ?_
              go_wp2_with fail
              have HO := OUTH.out (.inr (by rw [HLA.out]; exact HNEG.out))
              refine ⟨⟨A ++ [x], B', (C' ++ [c]) ++ x :: D, by simp; omega, by simp, by simp at hAB ⊢; omega, Lib.hid ⟨by rw [HD.out.1]; simp, HO.out.1, HO.out.2⟩, Lib.hid (by have := HRq.out.keep HK2.out; simpa using this), Lib.hid (HKq.out.trans HK2.out (fun k hk => by simp at hk))⟩, by simp [intOf]; omega⟩
    · obtain rfl : i = b := by omega
      have hB : B = [] := List.eq_nil_of_length_eq_zero (by omega)
      subst hB
      have h1 : ¬ ((i : Int) < (i : Int)) := by omega
      go_wp2_with fail
      go_end0
      refine ⟨rfl, A', ?_, HD.out.2.2, HK.out, by simpa using HR.out⟩
      have := HD.out.1
      simp at this
      rw [this, List.append_nil]
      exact HD.out.2.1
end Go.Proofs.Ytcpojohpmcnnhaa.A

set_option linter.unusedVariables false
set_option linter.unusedSimpArgs false
namespace Go.Proofs.Ytcpojohpmcnnhaa.A
open Go.RowKit Go.Proofs.YtcpojohpmcnnhaaW.PrintWords Go.Proofs.YtcpojohpmcnnhaaW.PrintLast Go.Proofs.YtcpojohpmcnnhaaW.PrintMore
open Go.Proofs.Ytcpojohpmcnnhaa.PA
inductive Full (key : Nat → Int) (bs : Nat) : List Nat → List Nat → Prop
  | nil : Full key bs [] []
  | cons {Z X D D0 : List Nat} : Z.Perm X → Srt key Z → X.length = bs → Full key bs D D0 → Full key bs (Z ++ D) (X ++ D0)
theorem Full.snoc {key : Nat → Int} {bs : Nat} {D D0 Z X : List Nat} (h : Full key bs D D0) (h1 : Z.Perm X) (h2 : Srt key Z) (h3 : X.length = bs) : Full key bs (D ++ Z) (D0 ++ X) := by
  induction h with
  | nil => have := Full.cons h1 h2 h3 Full.nil; simpa using this
  | cons a b c _ ih => rw [List.append_assoc, List.append_assoc]; exact Full.cons a b c ih
theorem Full.perm {key : Nat → Int} {bs : Nat} {D D0 : List Nat} (h : Full key bs D D0) : D.Perm D0 := by
  induction h with
  | nil => exact List.Perm.refl _
  | cons a _ _ _ ih => exact a.append ih
theorem Full.mult {key : Nat → Int} {bs : Nat} {D D0 : List Nat} (h : Full key bs D D0) : D = [] ∧ D0 = [] ∨ ∃ Z X D' D0', D = Z ++ D' ∧ D0 = X ++ D0' ∧ Z.Perm X ∧ Srt key Z ∧ X.length = bs ∧ Full key bs D' D0' := by
  cases h with
  | nil => exact .inl ⟨rfl, rfl⟩
  | cons a b c d => exact .inr ⟨_, _, _, _, rfl, rfl, a, b, c, d⟩
def Blk (key : Nat → Int) (bs : Nat) (L X : List Nat) : Prop := ∃ D D0 Z Y, L = D ++ Z ∧ X = D0 ++ Y ∧ Full key bs D D0 ∧ Z.Perm Y ∧ Srt key Z ∧ Y.length < bs
theorem Blk.done {key : Nat → Int} {bs : Nat} {L X : List Nat} (h : Blk key bs L X) (hl : X.length ≤ bs) : L.Perm X ∧ Srt key L := by
  obtain ⟨D, D0, Z, Y, rfl, rfl, hF, hp, hs, hy⟩ := h
  refine ⟨hF.perm.append hp, ?_⟩
  rcases hF.mult with ⟨rfl, rfl⟩ | ⟨Z', X', D', D0', rfl, rfl, h1, h2, h3, h4⟩
  · simpa using hs
  · simp at hl
    have e1 : D0' = [] := List.eq_nil_of_length_eq_zero (by omega)
    have e2 : Y = [] := List.eq_nil_of_length_eq_zero (by omega)
    subst e1 e2
    have e3 : D' = [] := List.Perm.eq_nil h4.perm
    have e4 : Z = [] := List.Perm.eq_nil hp
    subst e3 e4
    simpa using h2
set_option maxHeartbeats 8000000 in
set_option maxRecDepth 100000 in
theorem stable_c {key : Nat → Int} {enc : Nat → Value} (henc : ∀ x, ∃ v, enc x = .int .i64 v) {tail : List Value} {blk cap n g : Nat} {cb : Array Value} {w0 : World} (eg : Enters g) (hC : CmpS key enc n blk g cb w0)
    (X : List Nat) (N : Nat) (w : World) (hK0 : R.Keeps [blk] w0 w) (h : RowS enc 3 tail blk X w) (hN : X.length = N) (hn : N < 500000) (hX : X.Pairwise (· < ·)) (hxn : ∀ x, x ∈ X → x < n) :
    Calls Try.prog 95 #[.slice (some ⟨blk, 0, none⟩) N cap, .int .i64 (N : Int), .func (.func g) #[] cb] w fun e w' => e = .returned (.tuple #[]) ∧ ∃ Z, Z.Perm X ∧ Srt key Z ∧ R.Keeps [blk] w w' ∧ RowS enc 3 tail blk Z w' := by
  have e99 : ∀ args w, (callFunc 99 args).run Try.prog w = .ok (.enter 99 args) w := enters_mk Try.func99 (by kernel_rfl) rfl
  have e100 : ∀ args w, (callFunc 100 args).run Try.prog w = .ok (.enter 100 args) w := enters_mk Try.func100 (by kernel_rfl) rfl
  have HR0 := Lib.hid h
  have HC := Lib.hid hC
  have HK0 := Lib.hid hK0
  have HX := Lib.hid hX
  have HXN := Lib.hid hxn
  have HN := Lib.hid hN
  have EG := Lib.hid eg
  clear h hC hK0 hX hxn hN eg
  go_enter Try.func95, Try.ntmps95
  go_wp2_with fail
  go_loopw [7, 8] (fun v7 v8 wr => ∃ (D D0 R1 : List Nat), v7 = .int .i64 (D.length : Int) ∧ v8 = .int .i64 ((D.length + 20 : Nat) : Int) ∧ D.length + R1.length = N ∧ Hid (X = D0 ++ R1 ∧ Full key 20 D D0) ∧ Hid (RowS enc 3 tail blk (D ++ R1) wr) ∧ Hid (R.Keeps [blk] w wr)) (fun v7 _ _ => N - (intOf v7).toNat)
  case atStart => exact ⟨[], [], X, rfl, rfl, by simp [HN.out], Lib.hid ⟨rfl, Full.nil⟩, HR0, Lib.hid (R.Keeps.refl _ _)⟩
  case round =>
    rename World => wr
    obtain ⟨D, D0, R1, rfl, rfl, hDR, HD, HR, HK⟩ := hrel
    obtain ⟨a, ha⟩ : ∃ a, D.length = a := ⟨_, rfl⟩
    obtain ⟨b, hb⟩ : ∃ b, a + 20 = b := ⟨_, rfl⟩
    rw [ha] at hDR
    rw [ha, hb]
    have HA := Lib.hid ha
    clear ha
    have hlx : ∀ U V : List Nat, R1 = U ++ V → U.Pairwise (· < ·) ∧ ∀ x, x ∈ U → x < n := fun U V e => by
      have h1 := HX.out
      rw [HD.out.1, e] at h1
      refine ⟨(List.pairwise_append.1 (List.pairwise_append.1 h1).2.1).1, fun x hx => HXN.out x ?_⟩
      rw [HD.out.1, e]
      simp [hx]
    have HLX := Lib.hid hlx
    clear hlx
    by_cases hle : b ≤ N
    · have hle' : (b : Int) ≤ (N : Int) := by omega
      obtain ⟨U, V, hUV, hU⟩ : ∃ U V, R1 = U ++ V ∧ U.length = 20 := ⟨R1.take 20, R1.drop 20, (List.take_append_drop _ _).symm, by simp; omega⟩
      obtain ⟨b2, hb2⟩ : ∃ b2, b + 20 = b2 := ⟨_, rfl⟩
      have e2 : (b : Int) + 20 = (b2 : Int) := by omega
      have w2 := wr_small (x := b2) (by omega)
      have HUV := Lib.hid (And.intro hUV hU)
      clear hUV hU
      have hcall := insert_c henc EG.out HC.out (cap := cap) D U V N wr (HK0.out.trans HK.out (fun k hk _ => hk)) (by have := HR.out; rw [HUV.out.1] at this; exact this) (by have := HUV.out; have h2 := HA.out; rw [this.1] at hDR; simp at hDR ⊢; omega) (by omega) (by have := HUV.out.2; omega) (HLX.out U V HUV.out.1).1 (HLX.out U V HUV.out.1).2
      rw [HA.out, HUV.out.2, hb] at hcall
      have HCALL := Lib.hid hcall
      clear hcall
      go_wp2_with fail
      refine HCALL.out.mono ?_
      rintro e w4 ⟨rfl, Z, hz1, hz2, hz3, hz4⟩
      rw [List.append_nil] at hz1
      have HZ := Lib.hid (And.intro hz1 hz2)
      have HK4 := Lib.hid (HK.out.trans hz3 (fun k hk _ => hk))
      have HR4 := Lib.hid hz4
      clear hz1 hz2 hz3 hz4
      go_wp2_with fail
      have hzl : Z.length = 20 := by rw [HZ.out.1.length_eq]; exact HUV.out.2
      refine ⟨⟨D ++ Z, D0 ++ U, V, by rw [List.length_append, HA.out, hzl, hb], by rw [List.length_append, HA.out, hzl, hb]; congr 1; omega, by have h1 := HUV.out; rw [h1.1] at hDR; simp at hDR ⊢; have := HA.out; omega, Lib.hid ⟨by rw [HD.out.1, HUV.out.1, List.append_assoc], HD.out.2.snoc HZ.out.1 HZ.out.2 HUV.out.2⟩, Lib.hid (by rw [List.append_assoc]; exact HR4.out), HK4⟩, by simp [intOf]; omega⟩
    · have hle' : ¬ (b : Int) ≤ (N : Int) := by omega
      have hcall : Calls Try.prog 99 #[.slice (some ⟨blk, 0, none⟩) N cap, .int .i64 (a : Int), .int .i64 (N : Int), .func (.func g) #[] cb] wr fun e w' => e = .returned (.tuple #[]) ∧ ∃ Z, Z.Perm R1 ∧ Srt key Z ∧ R.Keeps [blk] wr w' ∧ RowS enc 3 tail blk (D ++ Z) w' := by
        by_cases h0 : R1 = []
        · have haN : a = N := by rw [h0] at hDR; simpa using hDR
          rw [haN]
          refine (insert_none N cap blk _ N wr (by omega)).mono ?_
          rintro e w' ⟨rfl, rfl⟩
          exact ⟨rfl, [], by rw [h0], Srt.nil, R.Keeps.refl _ _, by have := HR.out; rw [h0] at this; exact this⟩
        · have hl0 : 0 < R1.length := by
            rcases Nat.eq_zero_or_pos R1.length with h | h
            · exact absurd (List.eq_nil_of_length_eq_zero h) h0
            · exact h
          have := insert_c henc EG.out HC.out (cap := cap) D R1 [] N wr (HK0.out.trans HK.out (fun k hk _ => hk)) (by have := HR.out; simpa using this) (by have h2 := HA.out; simp; omega) (by omega) hl0 (HLX.out R1 [] (by simp)).1 (HLX.out R1 [] (by simp)).2
          rw [HA.out, hDR] at this
          refine this.mono ?_
          rintro e w' ⟨rfl, Z, hz1, hz2, hz3, hz4⟩
          rw [List.append_nil] at hz1 hz4
          exact ⟨rfl, Z, hz1, hz2, hz3, hz4⟩
      have HCALL := Lib.hid hcall
      clear hcall
      go_wp2_with fail
      refine HCALL.out.mono ?_
      rintro e w4 ⟨rfl, Z, hz1, hz2, hz3, hz4⟩
      have HB0 : Hid (Blk key 20 (D ++ Z) X) := Lib.hid ⟨D, D0, Z, R1, rfl, HD.out.1, HD.out.2, hz1, hz2, by omega⟩
      have HK4 := Lib.hid (HK.out.trans hz3 (fun k hk _ => hk))
      have HR4 := Lib.hid hz4
      clear hz1 hz2 hz3 hz4
      obtain ⟨L, hL⟩ : ∃ L, D ++ Z = L := ⟨_, rfl⟩
      rw [hL] at HB0 HR4
      clear hL HD HR HK HA HLX HCALL hDR hle hle'
      go_wp2_with fail
      go_loopw [6] (fun v6 wo => ∃ (bs : Nat) (L : List Nat), v6 = .int .i64 (bs : Int) ∧ 0 < bs ∧ bs < 1000000 ∧ Hid (Blk key bs L X) ∧ Hid (RowS enc 3 tail blk L wo) ∧ Hid (R.Keeps [blk] w wo)) (fun v6 _ => 1000000 - (intOf v6).toNat)
      case atStart => exact ⟨20, L, rfl, by omega, by omega, HB0, HR4, HK4⟩
      case round =>
        rename World => wo
        obtain ⟨bs, L, rfl, hb0, hbm, HB, HR, HK⟩ := hrel
        by_cases hlt : bs < N
        · have hlt' : (bs : Int) < (N : Int) := by omega
          obtain ⟨b2, hb2⟩ : ∃ b2, 2 * bs = b2 := ⟨_, rfl⟩
          have e2 : 2 * (bs : Int) = (b2 : Int) := by omega
          have e3 : (bs : Int) * 2 = (b2 : Int) := by omega
          have w2 := wr_small (x := b2) (by omega)
          have hbb := HB.out
          obtain ⟨D, D0, Z, Y, rfl, hXe, hF, hp, hs, hy⟩ := hbb
          have HXE := Lib.hid (And.intro hXe hF)
          have HZ := Lib.hid (And.intro hp hs)
          have hNY : D.length + Y.length = N := by
            have h1 := HN.out
            rw [hXe] at h1
            simp at h1
            have h2 := hF.perm.length_eq
            omega
          clear hXe hF hp hs HB
          go_wp2_with fail
          go_loopw [7, 8] (fun v7 v8 wr => ∃ (E E0 D D0 : List Nat), v7 = .int .i64 (E.length : Int) ∧ v8 = .int .i64 ((E.length + b2 : Nat) : Int) ∧ E.length + D.length + Y.length = N ∧ Hid (X = E0 ++ (D0 ++ Y) ∧ Full key b2 E E0 ∧ Full key bs D D0) ∧ Hid (RowS enc 3 tail blk (E ++ (D ++ Z)) wr) ∧ Hid (R.Keeps [blk] w wr)) (fun v7 _ _ => N - (intOf v7).toNat)
          case atStart => exact ⟨[], [], D, D0, rfl, by simp, by simpa using hNY, Lib.hid ⟨HXE.out.1, Full.nil, HXE.out.2⟩, HR, HK⟩
          case round =>
            rename World => wr
            obtain ⟨E, E0, D, D0, rfl, rfl, hDR, HD, HRr, HKr⟩ := hrel
            obtain ⟨a, ha⟩ : ∃ a, E.length = a := ⟨_, rfl⟩
            obtain ⟨b, hb⟩ : ∃ b, a + b2 = b := ⟨_, rfl⟩
            obtain ⟨m1, hm1⟩ : ∃ m1, a + bs = m1 := ⟨_, rfl⟩
            rw [ha] at hDR
            rw [ha, hb]
            have em : (a : Int) + (bs : Int) = (m1 : Int) := by omega
            have wm := wr_small (x := m1) (by omega)
            have HA := Lib.hid ha
            clear ha
            have hYl : Z.length = Y.length := HZ.out.1.length_eq
            have HYL := Lib.hid hYl
            clear hYl
            by_cases hle : b ≤ N
            · have hle' : (b : Int) ≤ (N : Int) := by omega
              rcases HD.out.2.2.mult with ⟨h1, _⟩ | ⟨Z1, X1, D1, D10, hD1, hD10, hp1, hs1, hl1, hF1⟩
              · exfalso; rw [h1] at hDR; simp at hDR; omega
              rcases hF1.mult with ⟨h1, _⟩ | ⟨Z2, X2, D2, D20, hD2, hD20, hp2, hs2, hl2, hF2⟩
              · exfalso; rw [hD1, h1] at hDR; have := hp1.length_eq; simp at hDR; omega
              subst hD1 hD2 hD10 hD20
              have hz1 : Z1.length = bs := by rw [hp1.length_eq]; exact hl1
              have hz2 : Z2.length = bs := by rw [hp2.length_eq]; exact hl2
              obtain ⟨b3, hb3⟩ : ∃ b3, b + b2 = b3 := ⟨_, rfl⟩
              have e4 : (b : Int) + (b2 : Int) = (b3 : Int) := by omega
              have w4 := wr_small (x := b3) (by omega)
              have hall : ∀ x, x ∈ X1 ++ X2 → x < n := fun x hx => HXN.out x (by rw [HD.out.1]; simp only [List.mem_append] at hx ⊢; rcases hx with h | h <;> simp [h])
              have hord : ∀ x, x ∈ X1 → ∀ y, y ∈ X2 → x < y := fun x hx y hy => by
                have h1 := HX.out
                rw [HD.out.1, List.append_assoc, List.append_assoc] at h1
                exact (List.pairwise_append.1 (List.pairwise_append.1 h1).2.1).2.2 x hx y (by simp [hy])
              have hcall := symMerge_c henc EG.out HC.out (cap := cap) N (by omega) (Z1.length + Z2.length) E Z1 Z2 (D2 ++ Z) _ _ _ _ wr (by simp) (Nat.le_refl _) (HK0.out.trans HKr.out (fun k hk _ => hk)) HRr.out (by have := HA.out; have := HYL.out; simp at hDR ⊢; omega) rfl rfl rfl (by omega) (by omega) hs1 hs2 (fun x hx y hy => hord x (hp1.subset hx) y (hp2.subset hy)) (fun x hx => hall x (List.mem_append_left _ (hp1.subset hx))) (fun y hy => hall y (List.mem_append_right _ (hp2.subset hy)))
              rw [HA.out, hz1, hz2, show a + bs + bs = b by omega, hm1] at hcall
              have HCALL := Lib.hid hcall
              have HPP := Lib.hid (And.intro hp1 (And.intro hp2 (And.intro hl1 (And.intro hl2 hF2))))
              clear hcall hall hord hp1 hp2 hs1 hs2 hF1 hF2 hl1 hl2
              have HZZ := Lib.hid (And.intro hz1 hz2)
              clear hz1 hz2
              go_wp2_with fail
              refine HCALL.out.mono ?_
              rintro e w4 ⟨rfl, W, hz1, hz2, hz3, hz4⟩
              have HW := Lib.hid (And.intro hz1 hz2)
              have HK5 := Lib.hid (HKr.out.trans hz3 (fun k hk _ => hk))
              have HR5 := Lib.hid hz4
              clear hz1 hz2 hz3 hz4
              go_wp2_with fail
              have hwl : W.length = b2 := by rw [HW.out.1.length_eq]; simp [HZZ.out]; omega
              refine ⟨⟨E ++ W, E0 ++ (X1 ++ X2), D2, D20, by rw [List.length_append, HA.out, hwl, hb], by rw [List.length_append, HA.out, hwl, hb, hb3], by rw [List.length_append, HA.out, hwl]; have := HZZ.out; simp at hDR; omega, Lib.hid ⟨by rw [HD.out.1]; simp, HD.out.2.1.snoc (HW.out.1.trans (HPP.out.1.append HPP.out.2.1)) HW.out.2 (by simp [HPP.out.2.2.1, HPP.out.2.2.2.1]; omega), HPP.out.2.2.2.2⟩, Lib.hid (by have := HR5.out; simpa using this), HK5⟩, by simp [intOf]; omega⟩
            · have hle' : ¬ (b : Int) ≤ (N : Int) := by omega
              by_cases hmN : m1 < N
              · have hmN' : (m1 : Int) < (N : Int) := by omega
                rcases HD.out.2.2.mult with ⟨h1, _⟩ | ⟨Z1, X1, D1, D10, hD1, hD10, hp1, hs1, hl1, hF1⟩
                · exfalso; rw [h1] at hDR; simp at hDR; omega
                have hz1 : Z1.length = bs := by rw [hp1.length_eq]; exact hl1
                rcases hF1.mult with ⟨h1, h2⟩ | ⟨Z2, X2, D2, D20, hD2, hD20, hp2, hs2, hl2, hF2⟩
                rotate_left
                · exfalso; rw [hD1, hD2] at hDR; have := hp2.length_eq; simp at hDR; omega
                subst h1 h2 hD1 hD10
                simp only [List.append_nil] at HD HRr hDR
                have hall : ∀ x, x ∈ X1 ++ Y → x < n := fun x hx => HXN.out x (by rw [HD.out.1]; simp only [List.mem_append] at hx ⊢; rcases hx with h | h <;> simp [h])
                have hord : ∀ x, x ∈ X1 → ∀ y, y ∈ Y → x < y := fun x hx y hy => by
                  have h1 := HX.out
                  rw [HD.out.1] at h1
                  exact (List.pairwise_append.1 (List.pairwise_append.1 h1).2.1).2.2 x hx y hy
                have hzl := HYL.out
                have hcall := symMerge_c henc EG.out HC.out (cap := cap) N (by omega) (Z1.length + Z.length) E Z1 Z [] _ _ _ _ wr (by simp) (Nat.le_refl _) (HK0.out.trans HKr.out (fun k hk _ => hk)) HRr.out (by have := HA.out; simp; omega) rfl rfl rfl (by omega) (by omega) hs1 HZ.out.2 (fun x hx y hy => hord x (hp1.subset hx) y (HZ.out.1.subset hy)) (fun x hx => hall x (List.mem_append_left _ (hp1.subset hx))) (fun y hy => hall y (List.mem_append_right _ (HZ.out.1.subset hy)))
                rw [HA.out, hz1, show a + bs + Z.length = N by omega, hm1] at hcall
                have HCALL := Lib.hid hcall
                have HPP := Lib.hid (And.intro hp1 hl1)
                clear hcall hall hord hp1 hs1 hF1 hl1
                have HZZ := Lib.hid hz1
                clear hz1 hzl
                go_wp2_with fail
                refine HCALL.out.mono ?_
                rintro e w4 ⟨rfl, W, hz1, hz2, hz3, hz4⟩
                have HB1 : Hid (Blk key b2 (E ++ W) X) := Lib.hid ⟨E, E0, W, X1 ++ Y, rfl, HD.out.1, HD.out.2.1, hz1.trans (HPP.out.1.append HZ.out.1), hz2, by have := HPP.out.2; simp; omega⟩
                have HK5 := Lib.hid (HKr.out.trans hz3 (fun k hk _ => hk))
                have HR5 : Hid (RowS enc 3 tail blk (E ++ W) _) := Lib.hid (by simpa using hz4)
                clear hz1 hz2 hz3 hz4
                go_wp2_with fail
                exact ⟨⟨b2, E ++ W, rfl, by omega, by omega, HB1, HR5, HK5⟩, by simp [intOf]; omega⟩
              · have hmN' : ¬ (m1 : Int) < (N : Int) := by omega
                have HB1 : Hid (Blk key b2 (E ++ (D ++ Z)) X) := by
                  refine Lib.hid ⟨E, E0, D ++ Z, D0 ++ Y, rfl, HD.out.1, HD.out.2.1, HD.out.2.2.perm.append HZ.out.1, ?_, ?_⟩
                  · rcases HD.out.2.2.mult with ⟨h1, _⟩ | ⟨Z1, X1, D1, D10, hD1, hD10, hp1, hs1, hl1, hF1⟩
                    · rw [h1]; exact HZ.out.2
                    · have hz1 : Z1.length = bs := by rw [hp1.length_eq]; exact hl1
                      have h3 := HYL.out
                      rw [hD1] at hDR
                      simp at hDR
                      have e5 : D1 = [] := List.eq_nil_of_length_eq_zero (by omega)
                      have e6 : Z = [] := List.eq_nil_of_length_eq_zero (by omega)
                      rw [hD1, e5, e6]
                      simpa using hs1
                  · have := HD.out.2.2.perm.length_eq
                    simp
                    omega
                go_wp2_with fail
                exact ⟨⟨b2, _, rfl, by omega, by omega, HB1, HRr, HKr⟩, by simp [intOf]; omega⟩
        · have hlt' : ¬ (bs : Int) < (N : Int) := by omega
          go_wp2_with fail
          go_end0
          have := HB.out.done (by rw [HN.out]; omega)
          exact ⟨rfl, L, this.1, this.2, HK.out, HR.out⟩
end Go.Proofs.Ytcpojohpmcnnhaa.A

set_option linter.unusedVariables false
set_option linter.unusedSimpArgs false
namespace Go.Proofs.Ytcpojohpmcnnhaa.A
open Go.RowKit Go.Proofs.YtcpojohpmcnnhaaW.PrintWords Go.Proofs.YtcpojohpmcnnhaaW.PrintLast Go.Proofs.YtcpojohpmcnnhaaW.PrintMore
open Go.Proofs.Ytcpojohpmcnnhaa.PA
def insL (key : Nat → Int) (x : Nat) : List Nat → List Nat
  | [] => [x]
  | y :: l => if key x < key y ∨ (key x = key y ∧ x < y) then x :: y :: l else y :: insL key x l
def ordL (key : Nat → Int) (n : Nat) : List Nat := (List.range n).foldr (insL key) []
theorem insL_perm (key : Nat → Int) (x : Nat) : ∀ l, (insL key x l).Perm (x :: l)
  | [] => List.Perm.refl _
  | y :: l => by
    unfold insL
    split
    · exact List.Perm.refl _
    · exact ((List.perm_cons y).2 (insL_perm key x l)).trans (List.Perm.swap x y l)
theorem insL_srt {key : Nat → Int} {x : Nat} : ∀ {l}, Srt key l → x ∉ l → Srt key (insL key x l)
  | [], _, _ => List.pairwise_singleton _ _
  | y :: l, h, hx => by
    have h1 := List.pairwise_cons.1 h
    simp only [List.mem_cons, not_or] at hx
    unfold insL
    split
    · rename_i hc
      refine List.pairwise_cons.2 ⟨fun z hz => ?_, h⟩
      rcases List.mem_cons.1 hz with rfl | hz
      · exact hc
      · exact lx.trans hc (h1.1 z hz)
    · rename_i hc
      refine List.pairwise_cons.2 ⟨fun z hz => ?_, insL_srt h1.2 hx.2⟩
      rcases List.mem_cons.1 ((insL_perm key x l).subset hz) with rfl | hz
      · exact lx.not hc (fun e => hx.1 e.symm)
      · exact h1.1 z hz
theorem fold_ins (key : Nat → Int) : ∀ l : List Nat, l.Nodup → (l.foldr (insL key) []).Perm l ∧ Srt key (l.foldr (insL key) [])
  | [], _ => ⟨List.Perm.refl _, Srt.nil⟩
  | x :: l, h => by
    have h1 := List.nodup_cons.1 h
    obtain ⟨i1, i2⟩ := fold_ins key l h1.2
    refine ⟨(insL_perm key x _).trans ((List.perm_cons x).2 i1), insL_srt i2 (fun hx => h1.1 (i1.subset hx))⟩
theorem ordL_perm (key : Nat → Int) (n : Nat) : (ordL key n).Perm (List.range n) := (fold_ins key _ List.nodup_range).1
theorem ordL_srt (key : Nat → Int) (n : Nat) : Srt key (ordL key n) := (fold_ins key _ List.nodup_range).2
theorem ordL_unique {key : Nat → Int} {n : Nat} {Z : List Nat} (h1 : Z.Perm (List.range n)) (h2 : Srt key Z) : Z = ordL key n :=
  srt_unique h2 (ordL_srt key n) (h1.trans (ordL_perm key n).symm)
set_option maxHeartbeats 8000000 in
set_option maxRecDepth 100000 in
theorem sortStable_c {key : Nat → Int} {enc : Nat → Value} (henc : ∀ x, ∃ v, enc x = .int .i64 v) {tail : List Value} {blk cap g : Nat} {cb : Array Value} {w0 : World} (N : Nat) (eg : Enters g) (hC : CmpS key enc N blk g cb w0)
    (w : World) (hK0 : R.Keeps [blk] w0 w) (h : RowS enc 3 tail blk (List.range N) w) (hn : N < 500000) :
    Calls Try.prog 89 #[.slice (some ⟨blk, 0, none⟩) N cap, .func (.func g) #[] cb] w fun e w' => e = .returned (.tuple #[]) ∧ R.Keeps [blk] w w' ∧ RowS enc 3 tail blk (ordL key N) w' := by
  have e95 : ∀ args w, (callFunc 95 args).run Try.prog w = .ok (.enter 95 args) w := enters_mk Try.func95 (by kernel_rfl) rfl
  have HCALL := Lib.hid (stable_c henc eg hC (cap := cap) (List.range N) N w hK0 h (by simp) hn (List.pairwise_lt_range) (fun x hx => List.mem_range.1 hx))
  clear h hK0 hC eg
  go_enter Try.func89, Try.ntmps89
  go_wp2_with fail
  refine HCALL.out.mono ?_
  rintro e w4 ⟨rfl, Z, hz1, hz2, hz3, hz4⟩
  rw [ordL_unique hz1 hz2] at hz4
  have HK4 := Lib.hid hz3
  have HR4 := Lib.hid hz4
  clear hz1 hz2 hz3 hz4
  go_wp2_with fail
  go_end0
  exact ⟨rfl, HK4.out, HR4.out⟩
end Go.Proofs.Ytcpojohpmcnnhaa.A

set_option linter.unusedVariables false
set_option linter.unusedSimpArgs false
namespace Go.Proofs.Ytcpojohpmcnnhaa.AP
open Go.RowKit Go.Proofs.YtcpojohpmcnnhaaW.PrintWords Go.Proofs.YtcpojohpmcnnhaaW.PrintLast Go.Proofs.YtcpojohpmcnnhaaW.PrintMore
open Go.Proofs.Ytcpojohpmcnnhaa.PA Go.Proofs.Ytcpojohpmcnnhaa.A
def cellsP (enc : Nat → Int × Value) (i : Nat) : List Value := [.int .i64 (enc i).1, (enc i).2]
def valP (enc : Nat → Int × Value) (i : Nat) : Value := .agg #[.int .i64 (enc i).1, (enc i).2]
theorem cellsP_len (enc : Nat → Int × Value) (L : List Nat) : (L.flatMap (cellsP enc)).length = L.length * 2 := by
  induction L with
  | nil => rfl
  | cons x L ih => simp [cellsP, ih]; omega
def RowS (enc : Nat → Int × Value) (tail : List Value) (blk : Nat) (L : List Nat) (w : World) : Prop := w.heap[blk]? = some (.cells ((L.flatMap (cellsP enc) ++ tail).toArray) 98 (0, 0))
theorem RowS.frozen {enc : Nat → Int × Value} {tail : List Value} {blk : Nat} {L : List Nat} {w : World} (h : RowS enc tail blk L w) (k : Nat) : w.frozen? ⟨blk, k, none⟩ = false := Lib.frozen_of_heap h k
theorem RowS.cell0 {enc : Nat → Int × Value} {tail : List Value} {blk : Nat} {L : List Nat} {w : World} (h : RowS enc tail blk L w) {A B : List Nat} {x : Nat} (e : L = A ++ x :: B) {k : Nat} (hk : k = A.length) : w.cell? ⟨blk, k * 2, none⟩ = some (.int .i64 (enc x).1) := by
  subst e hk
  unfold RowS at h
  have hl := cellsP_len enc A
  simp only [World.cell?, h, Option.isSome_none, Bool.false_eq_true, if_false, List.getElem?_toArray, List.flatMap_append, List.flatMap_cons, List.append_assoc]
  rw [List.getElem?_append_right (by omega), hl, Nat.sub_self]
  rfl
theorem RowS.cell1 {enc : Nat → Int × Value} {tail : List Value} {blk : Nat} {L : List Nat} {w : World} (h : RowS enc tail blk L w) {A B : List Nat} {x : Nat} (e : L = A ++ x :: B) {k : Nat} (hk : k = A.length) : w.cell? ⟨blk, k * 2 + 1, none⟩ = some (enc x).2 := by
  subst e hk
  unfold RowS at h
  have hl := cellsP_len enc A
  simp only [World.cell?, h, Option.isSome_none, Bool.false_eq_true, if_false, List.getElem?_toArray, List.flatMap_append, List.flatMap_cons, List.append_assoc]
  rw [List.getElem?_append_right (by omega), hl, show A.length * 2 + 1 - A.length * 2 = 1 by omega]
  rfl
theorem RowS.size {enc : Nat → Int × Value} {tail : List Value} {blk : Nat} {L : List Nat} {w : World} (h : RowS enc tail blk L w) : blk < w.heap.size := by
  rcases Nat.lt_or_ge blk w.heap.size with h1 | h1
  · exact h1
  · unfold RowS at h; rw [Array.getElem?_eq_none (by omega)] at h; cases h
theorem RowS.keep {enc : Nat → Int × Value} {tail : List Value} {blk : Nat} {L : List Nat} {w w' : World} (h : RowS enc tail blk L w) (hk : R.Keeps [] w w') : RowS enc tail blk L w' := (hk.block blk h.size (by simp)).trans h
theorem RowS.put {enc : Nat → Int × Value} {tail : List Value} {blk : Nat} {A B : List Nat} {y : Nat} {w : World} (h : RowS enc tail blk (A ++ y :: B) w) {k : Nat} (hk : k = A.length) (x : Nat) : RowS enc tail blk (A ++ x :: B) ((w.setCell ⟨blk, k * 2, none⟩ (.int .i64 (enc x).1)).setCell ⟨blk, k * 2 + 1, none⟩ (enc x).2) := by
  subst hk
  have hl := cellsP_len enc A
  have e : ((w.setCell ⟨blk, A.length * 2, none⟩ (.int .i64 (enc x).1)).setCell ⟨blk, A.length * 2 + 1, none⟩ (enc x).2).heap[blk]? = some (.cells (((((A ++ y :: B).flatMap (cellsP enc) ++ tail).toArray).setIfInBounds (A.length * 2) (.int .i64 (enc x).1)).setIfInBounds (A.length * 2 + 1) (enc x).2) 98 (0, 0)) := by
    unfold RowS at h
    simp [World.setCell, Array.getElem?_modify, h]
  unfold RowS
  rw [e]
  congr 2
  apply Array.ext'
  simp only [List.setIfInBounds_toArray, List.flatMap_append, List.flatMap_cons, List.append_assoc]
  rw [List.set_append, if_neg (by omega), hl, Nat.sub_self, List.set_append, if_neg (by omega), hl, show A.length * 2 + 1 - A.length * 2 = 1 by omega]
  rfl
theorem RowS.swap {enc : Nat → Int × Value} {tail : List Value} {blk : Nat} {L : List Nat} {w : World} (h : RowS enc tail blk L w) {A M B : List Nat} {x y : Nat} (e : L = A ++ x :: (M ++ y :: B)) {i j : Nat} (hi : i = A.length) (hj : j = A.length + 1 + M.length) :
    RowS enc tail blk (A ++ y :: (M ++ x :: B)) ((((w.setCell ⟨blk, i * 2, none⟩ (.int .i64 (enc y).1)).setCell ⟨blk, i * 2 + 1, none⟩ (enc y).2).setCell ⟨blk, j * 2, none⟩ (.int .i64 (enc x).1)).setCell ⟨blk, j * 2 + 1, none⟩ (enc x).2) := by
  subst e
  have h1 := h.put hi y
  rw [show A ++ y :: (M ++ y :: B) = (A ++ y :: M) ++ y :: B by simp] at h1
  have h3 := h1.put (k := j) (by simp; omega) x
  rw [show (A ++ y :: M) ++ x :: B = A ++ y :: (M ++ x :: B) by simp] at h3
  exact h3
set_option maxHeartbeats 4000000 in
set_option maxRecDepth 100000 in
theorem swapRange_c (enc : Nat → Int × Value) (henc : ∀ x, ∃ a n c, (enc x).2 = .slice a n c) (tail : List Value) (blk cap : Nat) (f : Value) (P U M V S : List Nat) (w : World) (h : RowS enc tail blk (P ++ (U ++ (M ++ (V ++ S)))) w) (hl : U.length = V.length) (hn : (P ++ (U ++ (M ++ (V ++ S)))).length < 1000000) :
    Calls Try.prog 105 #[.slice (some ⟨blk, 0, none⟩) (P ++ (U ++ (M ++ (V ++ S)))).length cap, .int .i64 (P.length : Int), .int .i64 ((P.length + U.length + M.length : Nat) : Int), .int .i64 (U.length : Int), f] w fun e w' => e = .returned (.tuple #[]) ∧ R.Keeps [blk] w w' ∧ RowS enc tail blk (P ++ (V ++ (M ++ (U ++ S)))) w' := by
  obtain ⟨N, hN⟩ : ∃ N, (P ++ (U ++ (M ++ (V ++ S)))).length = N := ⟨_, rfl⟩
  have hNs : P.length + U.length + M.length + V.length + S.length = N := by rw [← hN]; simp; omega
  rw [hN] at hn ⊢
  have HR0 := Lib.hid h
  have HL := Lib.hid hl
  clear h hN
  obtain ⟨p, hp⟩ : ∃ p, P.length = p := ⟨_, rfl⟩
  obtain ⟨n, hnn⟩ : ∃ n, U.length = n := ⟨_, rfl⟩
  obtain ⟨m, hm⟩ : ∃ m, M.length = m := ⟨_, rfl⟩
  rw [hp, hnn, hm] at hNs
  rw [← hl, hnn] at hNs
  rw [hp, hnn, hm]
  have HP := Lib.hid (And.intro hp (And.intro hnn hm))
  clear hp hnn hm hl
  go_enter Try.func105, Try.ntmps105
  go_wp2_with fail
  go_loopw [10] (fun v10 wr => ∃ (i : Nat) (U1 U2 V1 V2 : List Nat), v10 = .int .i64 (i : Int) ∧ i ≤ n ∧ Hid (U = U1 ++ U2 ∧ V = V1 ++ V2 ∧ U1.length = i ∧ V1.length = i) ∧ Hid (RowS enc tail blk (P ++ (V1 ++ (U2 ++ (M ++ (U1 ++ (V2 ++ S)))))) wr) ∧ Hid (R.Keeps [blk] w wr)) (fun v10 _ => n - (intOf v10).toNat)
  case atStart => exact ⟨0, [], U, [], V, rfl, Nat.zero_le _, Lib.hid ⟨rfl, rfl, rfl, rfl⟩, HR0, Lib.hid (R.Keeps.refl _ _)⟩
  case round =>
    rename World => wr
    obtain ⟨i, U1, U2, V1, V2, rfl, hi, HD, HR, HK⟩ := hrel
    by_cases hlt : i < n
    · have hlt' : (i : Int) < (n : Int) := by omega
      obtain ⟨u, U3, rfl⟩ : ∃ u U3, U2 = u :: U3 := by
        cases U2 with
        | nil => exfalso; have := HD.out; have h2 := HP.out.2.1; rw [this.1] at h2; simp at h2; omega
        | cons u U3 => exact ⟨u, U3, rfl⟩
      obtain ⟨v, V3, rfl⟩ : ∃ v V3, V2 = v :: V3 := by
        cases V2 with
        | nil => exfalso; have := HD.out; have h2 := HP.out.2.1; have h3 := HL.out; rw [this.2.1] at h3; simp at h3; omega
        | cons v V3 => exact ⟨v, V3, rfl⟩
      obtain ⟨y1, hy1⟩ : ∃ y1, p + i = y1 := ⟨_, rfl⟩
      obtain ⟨y2, hy2⟩ : ∃ y2, p + n + m + i = y2 := ⟨_, rfl⟩
      have hdist : P ++ (V1 ++ (u :: U3 ++ (M ++ (U1 ++ (v :: V3 ++ S))))) = (P ++ V1) ++ u :: ((U3 ++ (M ++ U1)) ++ v :: (V3 ++ S)) := by simp
      have hdist' : P ++ ((V1 ++ [v]) ++ (U3 ++ (M ++ ((U1 ++ [u]) ++ (V3 ++ S))))) = (P ++ V1) ++ v :: ((U3 ++ (M ++ U1)) ++ u :: (V3 ++ S)) := by simp
      have ha : (P ++ V1).length = y1 := by simp [HD.out.2.2.2, HP.out.1, ← hy1]
      have hb : y2 = (P ++ V1).length + 1 + (U3 ++ (M ++ U1)).length := by
        have h1 := HD.out.1
        have h2 := HP.out.2.1
        rw [h1] at h2
        simp at h2
        simp [HD.out.2.2, HP.out, ← hy2]
        have := HD.out.2.2.1
        omega
      have HY := Lib.hid (And.intro ha hb)
      have HDIST := Lib.hid (And.intro hdist hdist')
      have c1 := HR.out.cell0 hdist ha.symm
      have c1b := HR.out.cell1 hdist ha.symm
      have c2 := HR.out.cell0 (A := (P ++ V1) ++ u :: (U3 ++ (M ++ U1))) (x := v) (B := V3 ++ S) (k := y2) (by simp) (by rw [hb]; simp; omega)
      have c2b := HR.out.cell1 (A := (P ++ V1) ++ u :: (U3 ++ (M ++ U1))) (x := v) (B := V3 ++ S) (k := y2) (by simp) (by rw [hb]; simp; omega)
      have f1 := HR.out.frozen (y1 * 2)
      have f2 := HR.out.frozen (y2 * 2)
      have f1b := HR.out.frozen (y1 * 2 + 1)
      have f2b := HR.out.frozen (y2 * 2 + 1)
      obtain ⟨eu, heu⟩ : ∃ eu, (enc u).1 = eu := ⟨_, rfl⟩
      obtain ⟨ev, hev⟩ : ∃ ev, (enc v).1 = ev := ⟨_, rfl⟩
      obtain ⟨au, nu, cu, hfu⟩ := henc u
      obtain ⟨av, nv, cv, hfv⟩ := henc v
      rw [heu] at c1
      rw [hev] at c2
      rw [hfu] at c1b
      rw [hfv] at c2b
      have HEN := Lib.hid (And.intro heu (And.intro hev (And.intro hfu hfv)))
      clear heu hev hfu hfv ha hb hdist hdist'
      have g1 : (p : Int) + (i : Int) = (y1 : Int) := by omega
      have g2 : ((p + n + m : Nat) : Int) + (i : Int) = (y2 : Int) := by omega
      have b1 : (y1 : Int) < (N : Int) := by omega
      have b2 : (y2 : Int) < (N : Int) := by omega
      have b3 : IntKind.i64.wrap (y1 : Int) = (y1 : Int) := IntWalk.i64_in _ (by omega)
      have b4 : IntKind.i64.wrap (y2 : Int) = (y2 : Int) := IntWalk.i64_in _ (by omega)
      have mixed : Try.prog.follows Departure.mixedOrders = true := by kernel_rfl
      go_wp2_with fail
      go_big_region_o
      all_goals go_wp2_with fail
      all_goals
        refine ⟨⟨i + 1, U1 ++ [u], U3, V1 ++ [v], V3, by go_num, by omega, Lib.hid ⟨by rw [HD.out.1]; simp, by rw [HD.out.2.1]; simp, by simp [HD.out.2.2.1], by simp [HD.out.2.2.2]⟩, ?_, Lib.hid ((((((HK.out).setCell (by simp) _).setCell (by simp) _).setCell (by simp) _).setCell (by simp) _).drew)⟩, by simp [intOf]; omega⟩
        have h5 := HR.out.swap HDIST.out.1 HY.out.1.symm HY.out.2
        rw [HEN.out.1, HEN.out.2.1, HEN.out.2.2.1, HEN.out.2.2.2, ← HDIST.out.2] at h5
        exact Lib.hid h5
    · obtain rfl : i = n := by omega
      go_wp2_with fail
      go_end0
      obtain ⟨h1, h2, h3, h4⟩ := HD.out
      have e1 : U2 = [] := by
        have := HP.out.2.1
        rw [h1] at this
        simp at this
        exact List.eq_nil_of_length_eq_zero (by omega)
      have e2 : V2 = [] := by
        have := HP.out.2.1
        have hh := HL.out
        rw [h2] at hh
        simp at hh
        exact List.eq_nil_of_length_eq_zero (by omega)
      subst e1 e2
      simp only [List.append_nil] at h1 h2
      subst h1 h2
      exact ⟨rfl, HK.out, by simpa using HR.out⟩
end Go.Proofs.Ytcpojohpmcnnhaa.AP

set_option linter.unusedVariables false
set_option linter.unusedSimpArgs false
namespace Go.Proofs.Ytcpojohpmcnnhaa.AP
open Go.RowKit Go.Proofs.YtcpojohpmcnnhaaW.PrintWords Go.Proofs.YtcpojohpmcnnhaaW.PrintLast Go.Proofs.YtcpojohpmcnnhaaW.PrintMore
open Go.Proofs.Ytcpojohpmcnnhaa.PA Go.Proofs.Ytcpojohpmcnnhaa.A
theorem swapRange_at (enc : Nat → Int × Value) (henc : ∀ x, ∃ a n c, (enc x).2 = .slice a n c) (tail : List Value) (blk cap : Nat) (f : Value) (P U M V S L : List Nat) (N : Nat) (i j n : Int) (w : World) (hL : L = P ++ (U ++ (M ++ (V ++ S)))) (h : RowS enc tail blk L w) (hN : L.length = N) (hl : U.length = V.length) (hn : N < 1000000)
    (hi : i = (P.length : Int)) (hj : j = ((P.length + U.length + M.length : Nat) : Int)) (hk : n = (U.length : Int)) :
    Calls Try.prog 105 #[.slice (some ⟨blk, 0, none⟩) N cap, .int .i64 i, .int .i64 j, .int .i64 n, f] w fun e w' => e = .returned (.tuple #[]) ∧ R.Keeps [blk] w w' ∧ RowS enc tail blk (P ++ (V ++ (M ++ (U ++ S)))) w' := by
  subst hL hi hj hk hN
  exact swapRange_c enc henc tail blk cap f P U M V S w h hl hn
set_option maxHeartbeats 4000000 in
set_option maxRecDepth 100000 in
theorem rotate_c (enc : Nat → Int × Value) (henc : ∀ x, ∃ a n c, (enc x).2 = .slice a n c) (tail : List Value) (blk cap : Nat) (f : Value) (P U V S : List Nat) (N : Nat) (a m b : Int) (w : World) (h : RowS enc tail blk (P ++ (U ++ (V ++ S))) w) (hN : (P ++ (U ++ (V ++ S))).length = N) (hn : N < 1000000)
    (ha : a = (P.length : Int)) (hm : m = ((P.length + U.length : Nat) : Int)) (hb : b = ((P.length + U.length + V.length : Nat) : Int)) (hU : 0 < U.length) (hV : 0 < V.length) :
    Calls Try.prog 103 #[.slice (some ⟨blk, 0, none⟩) N cap, .int .i64 a, .int .i64 m, .int .i64 b, f] w fun e w' => e = .returned (.tuple #[]) ∧ R.Keeps [blk] w w' ∧ RowS enc tail blk (P ++ (V ++ (U ++ S))) w' := by
  have hNs : P.length + U.length + V.length + S.length = N := by rw [← hN]; simp; omega
  have HR0 := Lib.hid h
  obtain ⟨T, hT⟩ : ∃ T, P ++ (V ++ (U ++ S)) = T := ⟨_, rfl⟩
  have HT := Lib.hid hT
  rw [hT]
  clear h hT
  have e1 : m - a = (U.length : Int) := by omega
  have e2 : b - m = (V.length : Int) := by omega
  obtain ⟨mm, hmm⟩ : ∃ mm : Nat, P.length + U.length = mm := ⟨_, rfl⟩
  rw [hmm] at hm
  have HMM := Lib.hid hmm
  have HNN := Lib.hid hN
  have w1 : IntKind.i64.wrap (U.length : Int) = (U.length : Int) := IntWalk.i64_in _ (by omega)
  have w2 : IntKind.i64.wrap (V.length : Int) = (V.length : Int) := IntWalk.i64_in _ (by omega)
  have hmN : mm < 1000000 := by omega
  subst hm
  clear hb ha hN
  go_enter Try.func103, Try.ntmps103
  go_wp2_with fail
  try rw [e1]
  try rw [e2]
  clear e1 e2 w1 w2
  go_loopw [10, 11] (fun v10 v11 wr => ∃ (i j : Nat) (P' U' V' S' : List Nat), v10 = .int .i64 (i : Int) ∧ v11 = .int .i64 (j : Int) ∧ 0 < i ∧ 0 < j ∧ i ≤ mm ∧ mm + j ≤ N ∧ Hid (P' ++ (V' ++ (U' ++ S')) = T ∧ U'.length = i ∧ V'.length = j ∧ P'.length + i = mm ∧ (P' ++ (U' ++ (V' ++ S'))).length = N) ∧ Hid (RowS enc tail blk (P' ++ (U' ++ (V' ++ S'))) wr) ∧ Hid (R.Keeps [blk] w wr)) (fun v10 v11 _ => (intOf v10).toNat + (intOf v11).toNat)
  case atStart => exact ⟨U.length, V.length, P, U, V, S, rfl, rfl, hU, hV, by omega, by omega, Lib.hid ⟨HT.out, rfl, rfl, HMM.out, HNN.out⟩, HR0, Lib.hid (R.Keeps.refl _ _)⟩
  case round =>
    rename World => wr
    obtain ⟨i, j, P', U', V', S', rfl, rfl, hi0, hj0, him, hjN, HD, HR, HK⟩ := hrel
    by_cases hij : i = j
    · subst hij
      have e3 : (mm : Int) - (i : Int) = (P'.length : Int) := by have := HD.out.2.2.2.1; omega
      obtain ⟨q, hq⟩ : ∃ q, P'.length = q := ⟨_, rfl⟩
      rw [hq] at e3
      have hqN : q < 1000000 := by omega
      have HQ := Lib.hid hq
      clear hq
      have w3 : IntKind.i64.wrap (q : Int) = (q : Int) := IntWalk.i64_in _ (by omega)
      go_wp2_with fail
      refine (swapRange_at enc henc tail blk cap f P' U' [] V' S' _ N _ _ _ wr rfl HR.out HD.out.2.2.2.2 (by have := HD.out; omega) hn (by have := HQ.out; omega) (by have := HD.out; simp; omega) (by have := HD.out; omega)).mono ?_
      rintro e w4 ⟨rfl, hk4, hr4⟩
      go_wp2_with fail
      go_end0
      refine ⟨rfl, HK.out.trans hk4 (fun k hk _ => hk), ?_⟩
      rw [← HD.out.1]
      simpa using hr4
    · have hne : (i : Int) ≠ (j : Int) := by omega
      by_cases hgt : j < i
      · have hgt' : (j : Int) < (i : Int) := by omega
        obtain ⟨q, hq⟩ : ∃ q : Nat, (mm : Int) - (i : Int) = (q : Int) := ⟨mm - i, by omega⟩
        obtain ⟨d, hd⟩ : ∃ d : Nat, (i : Int) - (j : Int) = (d : Int) := ⟨i - j, by omega⟩
        have w3 : IntKind.i64.wrap (q : Int) = (q : Int) := IntWalk.i64_in _ (by omega)
        have w4 : IntKind.i64.wrap (d : Int) = (d : Int) := IntWalk.i64_in _ (by omega)
        obtain ⟨A, B, hU', hA⟩ : ∃ A B, U' = A ++ B ∧ A.length = j := ⟨U'.take j, U'.drop j, (List.take_append_drop _ _).symm, by have := HD.out; simp; omega⟩
        subst hU'
        have hB : B.length = i - j := by have := HD.out.2.1; simp at this; omega
        have HL := Lib.hid (And.intro hA hB)
        clear hA hB
        go_wp2_with fail
        refine (swapRange_at enc henc tail blk cap f P' A B V' S' _ N _ _ _ wr (by simp) HR.out HD.out.2.2.2.2 (by have := HD.out; have := HL.out; omega) hn (by have := HD.out; omega) (by have := HD.out; have := HL.out; omega) (by have := HL.out; omega)).mono ?_
        rintro e w5 ⟨rfl, hk5, hr5⟩
        have HK5 := Lib.hid (HK.out.trans hk5 (fun k hk _ => hk))
        have HR5 := Lib.hid hr5
        clear hk5 hr5
        go_wp2_with fail
        refine ⟨⟨d, j, P' ++ V', B, A, S', rfl, rfl, by omega, hj0, by omega, by omega, Lib.hid ⟨by rw [← HD.out.1]; simp, by have := HL.out.2; omega, HL.out.1, by have := HD.out; simp; omega, by have := HD.out; have := HL.out; simp at this ⊢; simp at *; omega⟩, ?_, HK5⟩, by simp [intOf]; omega⟩
        have := HR5.out
        exact Lib.hid (by simpa using this)
      · have hgt' : ¬ (j : Int) < (i : Int) := by omega
        obtain ⟨q, hq⟩ : ∃ q : Nat, (mm : Int) - (i : Int) = (q : Int) := ⟨mm - i, by omega⟩
        obtain ⟨r, hr⟩ : ∃ r : Nat, (mm : Int) + (j : Int) = (r : Int) := ⟨mm + j, by omega⟩
        obtain ⟨t, ht⟩ : ∃ t : Nat, (r : Int) - (i : Int) = (t : Int) := ⟨r - i, by omega⟩
        obtain ⟨d, hd⟩ : ∃ d : Nat, (j : Int) - (i : Int) = (d : Int) := ⟨j - i, by omega⟩
        have w3 : IntKind.i64.wrap (q : Int) = (q : Int) := IntWalk.i64_in _ (by omega)
        have w4 : IntKind.i64.wrap (r : Int) = (r : Int) := IntWalk.i64_in _ (by omega)
        have w5 : IntKind.i64.wrap (t : Int) = (t : Int) := IntWalk.i64_in _ (by omega)
        have w6 : IntKind.i64.wrap (d : Int) = (d : Int) := IntWalk.i64_in _ (by omega)
        obtain ⟨A, B, hV', hB⟩ : ∃ A B, V' = A ++ B ∧ B.length = i := ⟨V'.take (j - i), V'.drop (j - i), (List.take_append_drop _ _).symm, by have := HD.out; simp; omega⟩
        subst hV'
        have hA : A.length = j - i := by have := HD.out.2.2.1; simp at this; omega
        have HL := Lib.hid (And.intro hA hB)
        clear hA hB
        go_wp2_with fail
        refine (swapRange_at enc henc tail blk cap f P' U' A B S' _ N _ _ _ wr (by simp) HR.out HD.out.2.2.2.2 (by have := HD.out; have := HL.out; omega) hn (by have := HD.out; omega) (by have := HD.out; have := HL.out; omega) (by have := HD.out; omega)).mono ?_
        rintro e w5 ⟨rfl, hk5, hr5⟩
        have HK5 := Lib.hid (HK.out.trans hk5 (fun k hk _ => hk))
        have HR5 := Lib.hid hr5
        clear hk5 hr5
        go_wp2_with fail
        refine ⟨⟨i, d, P', B, A, U' ++ S', rfl, rfl, hi0, by omega, him, by omega, Lib.hid ⟨by rw [← HD.out.1]; simp, HL.out.2, by have := HL.out.1; omega, by have := HD.out; omega, by have := HD.out; have := HL.out; simp at *; omega⟩, ?_, HK5⟩, by simp [intOf]; omega⟩
        have := HR5.out
        exact Lib.hid (by simpa using this)
end Go.Proofs.Ytcpojohpmcnnhaa.AP

set_option linter.unusedVariables false
set_option linter.unusedSimpArgs false
namespace Go.Proofs.Ytcpojohpmcnnhaa.AP
open Go.RowKit Go.Proofs.YtcpojohpmcnnhaaW.PrintWords Go.Proofs.YtcpojohpmcnnhaaW.PrintLast Go.Proofs.YtcpojohpmcnnhaaW.PrintMore
open Go.Proofs.Ytcpojohpmcnnhaa.PA Go.Proofs.Ytcpojohpmcnnhaa.A
theorem set4_comm (w : World) {b i j : Nat} {u1 u2 v1 v2 : Value} (h : i ≠ j) : (((w.setCell ⟨b, i * 2, none⟩ u1).setCell ⟨b, i * 2 + 1, none⟩ u2).setCell ⟨b, j * 2, none⟩ v1).setCell ⟨b, j * 2 + 1, none⟩ v2 = (((w.setCell ⟨b, j * 2, none⟩ v1).setCell ⟨b, j * 2 + 1, none⟩ v2).setCell ⟨b, i * 2, none⟩ u1).setCell ⟨b, i * 2 + 1, none⟩ u2 := by
  rw [setCell_comm (w.setCell ⟨b, i * 2, none⟩ u1) (i := i * 2 + 1) (j := j * 2) (by omega), setCell_comm _ (i := i * 2 + 1) (j := j * 2 + 1) (by omega), setCell_comm w (i := i * 2) (j := j * 2) (by omega), setCell_comm (w.setCell ⟨b, j * 2, none⟩ v1) (i := i * 2) (j := j * 2 + 1) (by omega)]
def CmpS (key : Nat → Int) (enc : Nat → Int × Value) (n blk g : Nat) (cb : Array Value) (w0 : World) : Prop := ∀ W, R.Keeps [blk] w0 W → ∀ x y, x < n → y < n → Calls Try.prog g (#[valP enc x, valP enc y] ++ cb) W fun e w' => ∃ c, e = .returned (.int .i64 c) ∧ (c < 0 ↔ key x < key y) ∧ Below W.heap.size W w'
def Merged (key : Nat → Int) (enc : Nat → Int × Value) (tail : List Value) (blk : Nat) (P X Y S : List Nat) (w : World) (e : Ending) (w' : World) : Prop :=
  e = .returned (.tuple #[]) ∧ ∃ Z : List Nat, Z.Perm (X ++ Y) ∧ Srt key Z ∧ R.Keeps [blk] w w' ∧ RowS enc tail blk (P ++ (Z ++ S)) w'
set_option maxHeartbeats 4000000 in
set_option maxRecDepth 100000 in
theorem merge1_c {key : Nat → Int} {enc : Nat → Int × Value} (henc : ∀ x, ∃ a n c, (enc x).2 = .slice a n c) {tail : List Value} {blk cap n g : Nat} {cb : Array Value} {w0 : World} (eg : A.Enters g) (hC : CmpS key enc n blk g cb w0)
    (P : List Nat) (x : Nat) (Y S : List Nat) (N : Nat) (w : World) (hK0 : R.Keeps [blk] w0 w) (h : RowS enc tail blk (P ++ ([x] ++ (Y ++ S))) w) (hN : (P ++ ([x] ++ (Y ++ S))).length = N) (hn : N < 1000000)
    (hY0 : 0 < Y.length) (hY : Srt key Y) (hxy : ∀ y, y ∈ Y → x < y) (hx : x < n) (hy : ∀ y, y ∈ Y → y < n) :
    Calls Try.prog 98 #[.slice (some ⟨blk, 0, none⟩) N cap, .int .i64 (P.length : Int), .int .i64 ((P.length + 1 : Nat) : Int), .int .i64 ((P.length + 1 + Y.length : Nat) : Int), .func (.func g) #[] cb] w (Merged key enc tail blk P [x] Y S w) := by
  unfold A.Enters at eg
  have mixed : Try.prog.follows Departure.mixedOrders = true := by kernel_rfl
  have hNs : P.length + 1 + Y.length + S.length = N := by rw [← hN]; simp; omega
  have HR0 := Lib.hid h
  have HC := Lib.hid hC
  have HK0 := Lib.hid hK0
  have HXY := Lib.hid hxy
  have HY := Lib.hid hY
  have HYN := Lib.hid hy
  obtain ⟨a, ha⟩ : ∃ a, P.length = a := ⟨_, rfl⟩
  obtain ⟨l, hl⟩ : ∃ l, Y.length = l := ⟨_, rfl⟩
  rw [ha, hl] at hNs
  rw [hl] at hY0
  rw [ha, hl]
  have HL := Lib.hid (And.intro ha hl)
  clear h hC hK0 hxy hY hy hN ha hl
  obtain ⟨m, hm⟩ : ∃ m, a + 1 = m := ⟨_, rfl⟩
  obtain ⟨b, hb⟩ : ∃ b, m + l = b := ⟨_, rfl⟩
  rw [hm, hb]
  have e1 : (m : Int) - (a : Int) = 1 := by omega
  have ham : a < 1000000 := by omega
  have hbm : b < 1000000 := by omega
  go_enter Try.func98, Try.ntmps98
  go_wp2_with fail
  go_loopw [10, 11] (fun v10 v11 wr => ∃ (i j : Nat), v10 = .int .i64 ((m + i : Nat) : Int) ∧ v11 = .int .i64 ((m + j : Nat) : Int) ∧ i ≤ j ∧ j ≤ l ∧ Hid (i = 0 ∨ lx key (Y.getD (i - 1) 0) x) ∧ Hid (j = l ∨ lx key x (Y.getD j 0)) ∧ Hid (R.Keeps [] w wr)) (fun v10 v11 _ => (intOf v11).toNat - (intOf v10).toNat)
  case atStart => exact ⟨0, l, rfl, by rw [hb], by omega, Nat.le_refl _, Lib.hid (.inl rfl), Lib.hid (.inl rfl), Lib.hid (R.Keeps.refl _ _)⟩
  case round =>
    rename World => wr
    obtain ⟨i, j, rfl, rfl, hij, hjl, HI, HJ, HK⟩ := hrel
    by_cases hlt : i < j
    · obtain ⟨q, hq⟩ : ∃ q, (i + j) / 2 = q := ⟨_, rfl⟩
      obtain ⟨c, hc⟩ : ∃ c, m + q = c := ⟨_, rfl⟩
      obtain ⟨i1, hi1⟩ : ∃ i1, m + i = i1 := ⟨_, rfl⟩
      obtain ⟨j1, hj1⟩ : ∃ j1, m + j = j1 := ⟨_, rfl⟩
      rw [hi1, hj1]
      have hlt' : (i1 : Int) < (j1 : Int) := by omega
      obtain ⟨t, ht⟩ : ∃ t, i1 + j1 = t := ⟨_, rfl⟩
      have hti : (i1 : Int) + (j1 : Int) = (t : Int) := by omega
      have htc : t / 2 = c := by omega
      have htc' : (t : Int) / 2 = (c : Int) := by omega
      have wt := wr_small (x := t) (by omega)
      have wc := wr_small (x := c) (by omega)
      have wc1 := wr_small (x := c + 1) (by omega)
      have hcN : (c : Int) < (N : Int) := by omega
      have haN : (a : Int) < (N : Int) := by omega
      obtain ⟨yq, hyq⟩ : ∃ yq, Y.getD q 0 = yq := ⟨_, rfl⟩
      have hql : q < Y.length := by rw [HL.out.2]; omega
      have hmem : yq ∈ Y := by rw [← hyq, List.getD_eq_getElem?_getD, List.getElem?_eq_getElem hql]; exact List.getElem_mem hql
      have hxq := HXY.out yq hmem
      have hyn := HYN.out yq hmem
      have hsplit : Y = Y.take q ++ yq :: Y.drop (q + 1) := by
        have : yq = Y[q] := by rw [← hyq, List.getD_eq_getElem?_getD, List.getElem?_eq_getElem hql]; rfl
        rw [this, List.getElem_cons_drop, List.take_append_drop]
      have hRr := HR0.out.keep HK.out
      have c1 : wr.cell? ⟨blk, c * 2, none⟩ = some (.int .i64 (enc yq).1) := hRr.cell0 (A := P ++ [x] ++ Y.take q) (x := yq) (B := Y.drop (q + 1) ++ S) (by rw [List.append_assoc, List.append_assoc, ← List.cons_append, ← List.append_assoc (Y.take q), ← hsplit]) (by simp [HL.out.1]; omega)
      have c1b : wr.cell? ⟨blk, c * 2 + 1, none⟩ = some (enc yq).2 := hRr.cell1 (A := P ++ [x] ++ Y.take q) (x := yq) (B := Y.drop (q + 1) ++ S) (by rw [List.append_assoc, List.append_assoc, ← List.cons_append, ← List.append_assoc (Y.take q), ← hsplit]) (by simp [HL.out.1]; omega)
      have c2 : wr.cell? ⟨blk, a * 2, none⟩ = some (.int .i64 (enc x).1) := hRr.cell0 (A := P) (x := x) (B := Y ++ S) rfl HL.out.1.symm
      have c2b : wr.cell? ⟨blk, a * 2 + 1, none⟩ = some (enc x).2 := hRr.cell1 (A := P) (x := x) (B := Y ++ S) rfl HL.out.1.symm
      obtain ⟨eu, heu⟩ : ∃ x_, (enc yq).1 = x_ := ⟨_, rfl⟩
      obtain ⟨au, nu, cu, hfu⟩ := henc yq
      have hvu : Value.agg #[.int .i64 eu, .slice au nu cu] = valP enc yq := by unfold valP; rw [heu, hfu]
      obtain ⟨ev, hev⟩ : ∃ x_, (enc x).1 = x_ := ⟨_, rfl⟩
      obtain ⟨av, nv, cv, hfv⟩ := henc x
      have hvv : Value.agg #[.int .i64 ev, .slice av nv cv] = valP enc x := by unfold valP; rw [hev, hfv]
      rw [heu] at c1
      rw [hfu] at c1b
      rw [hev] at c2
      rw [hfv] at c2b
      have CE : Hid (∀ w', R.Keeps [] wr w' → w'.cell? ⟨blk, c * 2, none⟩ = some (.int .i64 eu) ∧ w'.cell? ⟨blk, c * 2 + 1, none⟩ = some (.slice au nu cu) ∧ w'.cell? ⟨blk, a * 2, none⟩ = some (.int .i64 ev) ∧ w'.cell? ⟨blk, a * 2 + 1, none⟩ = some (.slice av nv cv)) := Lib.hid (fun w' hw => ⟨hw.cell c1 (by simp), hw.cell c1b (by simp), hw.cell c2 (by simp), hw.cell c2b (by simp)⟩)
      have HKW := Lib.hid (HK0.out.trans HK.out (fun k hk => by simp at hk))
      have HQ := Lib.hid hyq
      have HEN := Lib.hid (And.intro (And.intro heu hfu) (And.intro (And.intro hev hfv) (And.intro hvu hvv)))
      clear hvu hvv
      clear hsplit hmem hyq c1 c1b c2 c2b hRr hql
      go_wp2_with fail
      apply R.wp_region_text [0, 1, 2, 3, 4, 5, 6, 7, 8] [9, 10] 11 (R.Keeps [] wr)
      case hm => kernel_rfl
      case hB => kernel_rfl
      case hd => rfl
      case hQ => exact fun _ _ _ _ _ h => h
      case hS => exact (R.Keeps.refl _ _).drew
      case hF =>
        intro w' hS
        obtain ⟨y0, y0b, y1, y1b⟩ := CE.out w' hS
        clear hS
        simp only [R.pickC, List.filterMap_cons, List.getElem?_toArray, List.getElem?_cons_zero, List.getElem?_cons_succ, List.filterMap_nil]
        (with_reducible refine R.wpStill_plain rfl (fun K hK => ?_)); go_simp; with_reducible refine hK _ ?_; clear hK K
        (with_reducible refine R.wpStill_plain rfl (fun K hK => ?_)); go_simp; with_reducible refine hK _ ?_; clear hK K
        (with_reducible refine R.wpStill_plain rfl (fun K hK => ?_)); go_simp; with_reducible refine hK _ ?_; clear hK K
        (with_reducible refine R.wpStill_plain rfl (fun K hK => ?_)); go_simp; with_reducible refine hK _ ?_; clear hK K
        (with_reducible refine R.wpStill_plain rfl (fun K hK => ?_)); go_simp; with_reducible refine hK _ ?_; clear hK K
        (with_reducible refine R.wpStill_plain rfl (fun K hK => ?_)); go_simp; with_reducible refine hK _ ?_; clear hK K
        (with_reducible refine R.wpStill_plain rfl (fun K hK => ?_)); go_simp; with_reducible refine hK _ ?_; clear hK K
        (with_reducible refine R.wpStill_plain rfl (fun K hK => ?_)); go_simp; with_reducible refine hK _ ?_; clear hK K
        (with_reducible refine R.wpStill_plain rfl (fun K hK => ?_)); go_simp; with_reducible refine hK _ ?_; clear hK K
        exact wpStill_nil rfl
      case hC =>
        simp only [R.chainOf, List.getElem?_toArray, List.getElem?_cons_zero, List.getElem?_cons_succ, Nat.reduceBNe, Bool.and_true, Bool.and_false, Bool.false_and]
        refine R.wpSeq_same (fun K hK => ?_)
        go_simp
        rw [HEN.out.2.2.1, HEN.out.2.2.2]
        refine (HC.out _ HKW.out.drew yq x hyn hx).mono ?_
        rintro e w2 ⟨cr, rfl, hcr, hB2⟩
        have hK2 : R.Keeps [] wr w2 := ((R.Keeps.refl [] _).drew).trans (R.Keeps.of_below [] hB2) (fun k hk => by simp at hk)
        refine hK _ _ hK2 ?_
        clear hK K
        have HK2 := Lib.hid hK2
        clear hB2 hK2
        by_cases hneg : cr < 0
        · have HNEG : Hid (lx key yq x) := Lib.hid (.inl (hcr.1 hneg))
          clear hcr
          refine R.wpSeq_same (fun K hK => ?_)
          go_simp
          with_reducible refine hK _ _ HK2.out ?_
          clear hK K
          refine R.wpSeq_nil ?_
          go_wp2_with fail
          refine ⟨⟨q + 1, j, by go_num, by go_num, by omega, hjl, Lib.hid (.inr (by rw [Nat.add_sub_cancel, HQ.out]; exact HNEG.out)), HJ, Lib.hid (HK.out.trans HK2.out (fun k hk _ => hk))⟩, by simp [intOf]; omega⟩
        · have HNEG : Hid (lx key x yq) := Lib.hid (lx.not (fun hh => hneg (hcr.2 ((lx_right hxq).1 hh))) (by omega))
          have hnn : decide (cr < 0) = false := decide_eq_false hneg
          clear hcr
          refine R.wpSeq_same (fun K hK => ?_)
          go_simp
          with_reducible refine hK _ _ HK2.out ?_
          clear hK K
          refine R.wpSeq_nil ?_
          go_wp2_with fail
          refine ⟨⟨i, q, by go_num, by go_num, by omega, by omega, HI, Lib.hid (.inr (by rw [HQ.out]; exact HNEG.out)), Lib.hid (HK.out.trans HK2.out (fun k hk _ => hk))⟩, by simp [intOf]; omega⟩
    · obtain rfl : i = j := by omega
      obtain ⟨i1, hi1⟩ : ∃ i1, m + i = i1 := ⟨_, rfl⟩
      obtain ⟨z1, hz1⟩ : ∃ z1, a + i = z1 := ⟨_, rfl⟩
      rw [hi1]
      have hzi : (i1 : Int) - 1 = (z1 : Int) := by omega
      have wz := wr_small (x := z1) (by omega)
      have hil : i ≤ Y.length := by rw [HL.out.2]; omega
      have hti : (Y.take i).length = i := by simp; omega
      have HTI := Lib.hid hti
      have HR1 : Hid (RowS enc tail blk (P ++ ([] ++ (x :: (Y.take i ++ (Y.drop i ++ S))))) wr) := Lib.hid (by have := HR0.out.keep HK.out; rw [← List.append_assoc (Y.take i), List.take_append_drop]; exact this)
      clear hti
      go_wp2_with fail
      go_loopw [13] (fun v13 wq => ∃ (A B : List Nat), v13 = .int .i64 ((a + A.length : Nat) : Int) ∧ A.length ≤ i ∧ Hid (Y.take i = A ++ B) ∧ Hid (RowS enc tail blk (P ++ (A ++ (x :: (B ++ (Y.drop i ++ S))))) wq) ∧ Hid (R.Keeps [blk] w wq)) (fun v13 _ => z1 - (intOf v13).toNat)
      case atStart => exact ⟨[], Y.take i, rfl, Nat.zero_le _, Lib.hid rfl, HR1, Lib.hid (HK.out.mono (fun k hk => by simp at hk))⟩
      case round =>
        rename World => wq
        obtain ⟨A, B, rfl, hAi, HAB, HRq, HKq⟩ := hrel
        obtain ⟨k, hk⟩ : ∃ k, a + A.length = k := ⟨_, rfl⟩
        rw [hk]
        by_cases hlt2 : k < z1
        · obtain ⟨y, B', rfl⟩ : ∃ y B', B = y :: B' := by
            cases B with
            | nil => exfalso; have h1 := HTI.out; rw [HAB.out] at h1; simp at h1; omega
            | cons y B' => exact ⟨y, B', rfl⟩
          have hlt2' : (k : Int) < (z1 : Int) := by omega
          obtain ⟨k1, hk1⟩ : ∃ k1, k + 1 = k1 := ⟨_, rfl⟩
          have hkk : (k : Int) + 1 = (k1 : Int) := by omega
          have wk := wr_small (x := k1) (by omega)
          have b1 : (k : Int) < (N : Int) := by omega
          have b2 : (k1 : Int) < (N : Int) := by omega
          have hsp : P ++ (A ++ (x :: (y :: B' ++ (Y.drop i ++ S)))) = (P ++ A) ++ x :: ([] ++ y :: (B' ++ (Y.drop i ++ S))) := by simp
          have ha : k = (P ++ A).length := by simp [HL.out.1, ← hk]
          have hb : k1 = (P ++ A).length + 1 + ([] : List Nat).length := by rw [← ha]; simp; omega
          have c1 : wq.cell? ⟨blk, k * 2, none⟩ = some (.int .i64 (enc x).1) := HRq.out.cell0 hsp ha
          have c1b : wq.cell? ⟨blk, k * 2 + 1, none⟩ = some (enc x).2 := HRq.out.cell1 hsp ha
          have c2 : wq.cell? ⟨blk, k1 * 2, none⟩ = some (.int .i64 (enc y).1) := HRq.out.cell0 (A := (P ++ A) ++ [x]) (x := y) (B := B' ++ (Y.drop i ++ S)) (by simp) (by rw [hb]; simp; omega)
          have c2b : wq.cell? ⟨blk, k1 * 2 + 1, none⟩ = some (enc y).2 := HRq.out.cell1 (A := (P ++ A) ++ [x]) (x := y) (B := B' ++ (Y.drop i ++ S)) (by simp) (by rw [hb]; simp; omega)
          have f1 := HRq.out.frozen (k * 2)
          have f1b := HRq.out.frozen (k * 2 + 1)
          have f2 := HRq.out.frozen (k1 * 2)
          have f2b := HRq.out.frozen (k1 * 2 + 1)
          obtain ⟨eu, heu⟩ : ∃ x_, (enc x).1 = x_ := ⟨_, rfl⟩
          obtain ⟨au, nu, cu, hfu⟩ := henc x
          have hvu : Value.agg #[.int .i64 eu, .slice au nu cu] = valP enc x := by unfold valP; rw [heu, hfu]
          obtain ⟨ev, hev⟩ : ∃ x_, (enc y).1 = x_ := ⟨_, rfl⟩
          obtain ⟨av, nv, cv, hfv⟩ := henc y
          have hvv : Value.agg #[.int .i64 ev, .slice av nv cv] = valP enc y := by unfold valP; rw [hev, hfv]
          rw [heu] at c1
          rw [hfu] at c1b
          rw [hev] at c2
          rw [hfv] at c2b
          have HEN := Lib.hid (And.intro (And.intro heu hfu) (And.intro (And.intro hev hfv) (And.intro hvu hvv)))
          clear hvu hvv
          have HSP := Lib.hid (And.intro hsp (And.intro ha hb))
          have HKA := Lib.hid hk
          clear heu hfu hev hfv ha hb hsp hk
          go_wp2_with fail
          go_big_region_o
          all_goals go_wp2_with fail
          all_goals
            refine ⟨⟨A ++ [y], B', by simp only [List.length_append, List.length_cons, List.length_nil]; have := HKA.out; congr 1; omega, by simp only [List.length_append, List.length_cons, List.length_nil]; have := HKA.out; omega, Lib.hid (by rw [HAB.out]; simp), ?_, Lib.hid ((((((HKq.out).setCell (by simp) _).setCell (by simp) _).setCell (by simp) _).setCell (by simp) _).drew)⟩, by simp [intOf]; omega⟩
            have h5 := HRq.out.swap HSP.out.1 HSP.out.2.1 HSP.out.2.2
            rw [HEN.out.1.1, HEN.out.1.2, HEN.out.2.1.1, HEN.out.2.1.2] at h5
            exact Lib.hid (by simpa using h5.keep ((R.Keeps.refl [] _).drew))
        · have hlt2' : ¬ (k : Int) < (z1 : Int) := by omega
          go_wp2_with fail
          go_end0
          have hB : B = [] := by
            have h1 := HTI.out
            rw [HAB.out] at h1
            simp at h1
            exact List.eq_nil_of_length_eq_zero (by omega)
          subst hB
          have hA : A = Y.take i := by have := HAB.out; simpa using this.symm
          subst hA
          have hYs := HY.out
          rw [← List.take_append_drop i Y] at hYs
          refine ⟨rfl, Y.take i ++ x :: Y.drop i, ?_, ?_, HKq.out, by simpa using HRq.out⟩
          · refine List.perm_middle.trans ?_
            rw [List.take_append_drop]
            exact List.Perm.refl _
          · refine put_in hYs ?_ ?_
            · rcases HI.out with h1 | h1
              · left; rw [h1]; rfl
              · by_cases h0 : i = 0
                · left; rw [h0]; rfl
                · right
                  rw [HTI.out]
                  have : (Y.take i).getD (i - 1) 0 = Y.getD (i - 1) 0 := by simp [List.getD_eq_getElem?_getD, List.getElem?_take, show i - 1 < i by omega]
                  rw [this]; exact h1
            · rcases HJ.out with h1 | h1
              · left; rw [h1]; exact List.drop_eq_nil_of_le (by rw [HL.out.2]; exact Nat.le_refl _)
              · right
                have : (Y.drop i).getD 0 0 = Y.getD i 0 := by simp [List.getD_eq_getElem?_getD]
                rw [this]; exact h1
set_option maxHeartbeats 4000000 in
set_option maxRecDepth 100000 in
theorem merge2_c {key : Nat → Int} {enc : Nat → Int × Value} (henc : ∀ x, ∃ a n c, (enc x).2 = .slice a n c) {tail : List Value} {blk cap n g : Nat} {cb : Array Value} {w0 : World} (eg : A.Enters g) (hC : CmpS key enc n blk g cb w0)
    (P X : List Nat) (y : Nat) (S : List Nat) (N : Nat) (w : World) (hK0 : R.Keeps [blk] w0 w) (h : RowS enc tail blk (P ++ (X ++ ([y] ++ S))) w) (hN : (P ++ (X ++ ([y] ++ S))).length = N) (hn : N < 1000000)
    (hX0 : 1 < X.length) (hX : Srt key X) (hxy : ∀ x, x ∈ X → x < y) (hx : ∀ x, x ∈ X → x < n) (hy : y < n) :
    Calls Try.prog 98 #[.slice (some ⟨blk, 0, none⟩) N cap, .int .i64 (P.length : Int), .int .i64 ((P.length + X.length : Nat) : Int), .int .i64 ((P.length + X.length + 1 : Nat) : Int), .func (.func g) #[] cb] w (Merged key enc tail blk P X [y] S w) := by
  unfold A.Enters at eg
  have mixed : Try.prog.follows Departure.mixedOrders = true := by kernel_rfl
  have hNs : P.length + X.length + 1 + S.length = N := by rw [← hN]; simp; omega
  have HR0 := Lib.hid h
  have HC := Lib.hid hC
  have HK0 := Lib.hid hK0
  have HXY := Lib.hid hxy
  have HX := Lib.hid hX
  have HXN := Lib.hid hx
  obtain ⟨a, ha⟩ : ∃ a, P.length = a := ⟨_, rfl⟩
  obtain ⟨l, hl⟩ : ∃ l, X.length = l := ⟨_, rfl⟩
  rw [ha, hl] at hNs
  rw [hl] at hX0
  rw [ha, hl]
  have HL := Lib.hid (And.intro ha hl)
  clear h hC hK0 hxy hX hx hN ha hl
  obtain ⟨m, hm⟩ : ∃ m, a + l = m := ⟨_, rfl⟩
  obtain ⟨b, hb⟩ : ∃ b, m + 1 = b := ⟨_, rfl⟩
  rw [hm, hb]
  have e0 : (m : Int) - (a : Int) = (l : Int) := by omega
  have e00 : ((l : Int) == 1) = false := by simp; omega
  have e01 : ¬ ((l : Int) = 1) := by omega
  have wl := wr_small (x := l) (by omega)
  have e1 : (b : Int) - (m : Int) = 1 := by omega
  have ham : a < 1000000 := by omega
  have hbm : b < 1000000 := by omega
  go_enter Try.func98, Try.ntmps98
  go_wp2_with fail
  go_loopw [14, 15] (fun v14 v15 wr => ∃ (i j : Nat), v14 = .int .i64 ((a + i : Nat) : Int) ∧ v15 = .int .i64 ((a + j : Nat) : Int) ∧ i ≤ j ∧ j ≤ l ∧ Hid (i = 0 ∨ lx key (X.getD (i - 1) 0) y) ∧ Hid (j = l ∨ lx key y (X.getD j 0)) ∧ Hid (R.Keeps [] w wr)) (fun v14 v15 _ => (intOf v15).toNat - (intOf v14).toNat)
  case atStart => exact ⟨0, l, rfl, by rw [hm], by omega, Nat.le_refl _, Lib.hid (.inl rfl), Lib.hid (.inl rfl), Lib.hid (R.Keeps.refl _ _)⟩
  case round =>
    rename World => wr
    obtain ⟨i, j, rfl, rfl, hij, hjl, HI, HJ, HK⟩ := hrel
    by_cases hlt : i < j
    · obtain ⟨q, hq⟩ : ∃ q, (i + j) / 2 = q := ⟨_, rfl⟩
      obtain ⟨c, hc⟩ : ∃ c, a + q = c := ⟨_, rfl⟩
      obtain ⟨i1, hi1⟩ : ∃ i1, a + i = i1 := ⟨_, rfl⟩
      obtain ⟨j1, hj1⟩ : ∃ j1, a + j = j1 := ⟨_, rfl⟩
      rw [hi1, hj1]
      have hlt' : (i1 : Int) < (j1 : Int) := by omega
      obtain ⟨t, ht⟩ : ∃ t, i1 + j1 = t := ⟨_, rfl⟩
      have hti : (i1 : Int) + (j1 : Int) = (t : Int) := by omega
      have htc : t / 2 = c := by omega
      have htc' : (t : Int) / 2 = (c : Int) := by omega
      have wt := wr_small (x := t) (by omega)
      have wc := wr_small (x := c) (by omega)
      have wc1 := wr_small (x := c + 1) (by omega)
      have hcN : (c : Int) < (N : Int) := by omega
      have haN : (m : Int) < (N : Int) := by omega
      obtain ⟨xq, hyq⟩ : ∃ xq, X.getD q 0 = xq := ⟨_, rfl⟩
      have hql : q < X.length := by rw [HL.out.2]; omega
      have hmem : xq ∈ X := by rw [← hyq, List.getD_eq_getElem?_getD, List.getElem?_eq_getElem hql]; exact List.getElem_mem hql
      have hxq := HXY.out xq hmem
      have hxn := HXN.out xq hmem
      have hsplit : X = X.take q ++ xq :: X.drop (q + 1) := by
        have : xq = X[q] := by rw [← hyq, List.getD_eq_getElem?_getD, List.getElem?_eq_getElem hql]; rfl
        rw [this, List.getElem_cons_drop, List.take_append_drop]
      have hRr := HR0.out.keep HK.out
      have c1 : wr.cell? ⟨blk, c * 2, none⟩ = some (.int .i64 (enc xq).1) := hRr.cell0 (A := P ++ X.take q) (x := xq) (B := X.drop (q + 1) ++ ([y] ++ S)) (by rw [List.append_assoc, ← List.cons_append, ← List.append_assoc (X.take q), ← hsplit]) (by simp [HL.out.1]; omega)
      have c1b : wr.cell? ⟨blk, c * 2 + 1, none⟩ = some (enc xq).2 := hRr.cell1 (A := P ++ X.take q) (x := xq) (B := X.drop (q + 1) ++ ([y] ++ S)) (by rw [List.append_assoc, ← List.cons_append, ← List.append_assoc (X.take q), ← hsplit]) (by simp [HL.out.1]; omega)
      have c2 : wr.cell? ⟨blk, m * 2, none⟩ = some (.int .i64 (enc y).1) := hRr.cell0 (A := P ++ X) (x := y) (B := S) (by simp) (by simp [HL.out.1, HL.out.2]; omega)
      have c2b : wr.cell? ⟨blk, m * 2 + 1, none⟩ = some (enc y).2 := hRr.cell1 (A := P ++ X) (x := y) (B := S) (by simp) (by simp [HL.out.1, HL.out.2]; omega)
      obtain ⟨eu, heu⟩ : ∃ x_, (enc y).1 = x_ := ⟨_, rfl⟩
      obtain ⟨au, nu, cu, hfu⟩ := henc y
      have hvu : Value.agg #[.int .i64 eu, .slice au nu cu] = valP enc y := by unfold valP; rw [heu, hfu]
      obtain ⟨ev, hev⟩ : ∃ x_, (enc xq).1 = x_ := ⟨_, rfl⟩
      obtain ⟨av, nv, cv, hfv⟩ := henc xq
      have hvv : Value.agg #[.int .i64 ev, .slice av nv cv] = valP enc xq := by unfold valP; rw [hev, hfv]
      rw [heu] at c2
      rw [hfu] at c2b
      rw [hev] at c1
      rw [hfv] at c1b
      have CE : Hid (∀ w', R.Keeps [] wr w' → w'.cell? ⟨blk, m * 2, none⟩ = some (.int .i64 eu) ∧ w'.cell? ⟨blk, m * 2 + 1, none⟩ = some (.slice au nu cu) ∧ w'.cell? ⟨blk, c * 2, none⟩ = some (.int .i64 ev) ∧ w'.cell? ⟨blk, c * 2 + 1, none⟩ = some (.slice av nv cv)) := Lib.hid (fun w' hw => ⟨hw.cell c2 (by simp), hw.cell c2b (by simp), hw.cell c1 (by simp), hw.cell c1b (by simp)⟩)
      have HKW := Lib.hid (HK0.out.trans HK.out (fun k hk => by simp at hk))
      have HQ := Lib.hid hyq
      have HEN := Lib.hid (And.intro (And.intro heu hfu) (And.intro (And.intro hev hfv) (And.intro hvu hvv)))
      clear hvu hvv
      clear hsplit hmem hyq c1 c1b c2 c2b hRr hql
      go_wp2_with fail
      apply R.wp_region_text [0, 1, 2, 3, 4, 5, 6, 7, 8] [9, 10, 11] 12 (R.Keeps [] wr)
      case hm => kernel_rfl
      case hB => kernel_rfl
      case hd => rfl
      case hQ => exact fun _ _ _ _ _ h => h
      case hS => exact (R.Keeps.refl _ _).drew
      case hF =>
        intro w' hS
        obtain ⟨y0, y0b, y1, y1b⟩ := CE.out w' hS
        clear hS
        simp only [R.pickC, List.filterMap_cons, List.getElem?_toArray, List.getElem?_cons_zero, List.getElem?_cons_succ, List.filterMap_nil]
        (with_reducible refine R.wpStill_plain rfl (fun K hK => ?_)); go_simp; with_reducible refine hK _ ?_; clear hK K
        (with_reducible refine R.wpStill_plain rfl (fun K hK => ?_)); go_simp; with_reducible refine hK _ ?_; clear hK K
        (with_reducible refine R.wpStill_plain rfl (fun K hK => ?_)); go_simp; with_reducible refine hK _ ?_; clear hK K
        (with_reducible refine R.wpStill_plain rfl (fun K hK => ?_)); go_simp; with_reducible refine hK _ ?_; clear hK K
        (with_reducible refine R.wpStill_plain rfl (fun K hK => ?_)); go_simp; with_reducible refine hK _ ?_; clear hK K
        (with_reducible refine R.wpStill_plain rfl (fun K hK => ?_)); go_simp; with_reducible refine hK _ ?_; clear hK K
        (with_reducible refine R.wpStill_plain rfl (fun K hK => ?_)); go_simp; with_reducible refine hK _ ?_; clear hK K
        (with_reducible refine R.wpStill_plain rfl (fun K hK => ?_)); go_simp; with_reducible refine hK _ ?_; clear hK K
        (with_reducible refine R.wpStill_plain rfl (fun K hK => ?_)); go_simp; with_reducible refine hK _ ?_; clear hK K
        exact wpStill_nil rfl
      case hC =>
        simp only [R.chainOf, List.getElem?_toArray, List.getElem?_cons_zero, List.getElem?_cons_succ, Nat.reduceBNe, Bool.and_true, Bool.and_false, Bool.false_and]
        refine R.wpSeq_same (fun K hK => ?_)
        go_simp
        rw [HEN.out.2.2.1, HEN.out.2.2.2]
        refine (HC.out _ HKW.out.drew y xq hy hxn).mono ?_
        rintro e w2 ⟨cr, rfl, hcr, hB2⟩
        have hK2 : R.Keeps [] wr w2 := ((R.Keeps.refl [] _).drew).trans (R.Keeps.of_below [] hB2) (fun k hk => by simp at hk)
        refine hK _ _ hK2 ?_
        clear hK K
        have HK2 := Lib.hid hK2
        clear hB2 hK2
        by_cases hneg : cr < 0
        · have HNEG : Hid (lx key y xq) := Lib.hid (.inl (hcr.1 hneg))
          clear hcr
          refine R.wpSeq_same (fun K hK => ?_)
          go_simp
          with_reducible refine hK _ _ HK2.out ?_
          clear hK K
          refine R.wpSeq_same (fun K hK => ?_)
          go_simp
          with_reducible refine hK _ _ HK2.out ?_
          clear hK K
          refine R.wpSeq_nil ?_
          go_wp2_with fail
          refine ⟨⟨i, q, by go_num, by go_num, by omega, by omega, HI, Lib.hid (.inr (by rw [HQ.out]; exact HNEG.out)), Lib.hid (HK.out.trans HK2.out (fun k hk _ => hk))⟩, by simp [intOf]; omega⟩
        · have HNEG : Hid (lx key xq y) := Lib.hid (lx.not (fun hh => hneg (hcr.2 ((lx_right hxq).1 hh))) (by omega))
          have hnn : decide (cr < 0) = false := decide_eq_false hneg
          clear hcr
          refine R.wpSeq_same (fun K hK => ?_)
          go_simp
          with_reducible refine hK _ _ HK2.out ?_
          clear hK K
          refine R.wpSeq_same (fun K hK => ?_)
          go_simp
          with_reducible refine hK _ _ HK2.out ?_
          clear hK K
          refine R.wpSeq_nil ?_
          go_wp2_with fail
          refine ⟨⟨q + 1, j, by go_num, by go_num, by omega, hjl, Lib.hid (.inr (by rw [Nat.add_sub_cancel, HQ.out]; exact HNEG.out)), HJ, Lib.hid (HK.out.trans HK2.out (fun k hk _ => hk))⟩, by simp [intOf]; omega⟩
    · obtain rfl : i = j := by omega
      obtain ⟨i1, hi1⟩ : ∃ i1, a + i = i1 := ⟨_, rfl⟩
      rw [hi1]
      have hil : i ≤ X.length := by rw [HL.out.2]; omega
      have hti : (X.drop i).length = l - i := by simp [HL.out.2]
      have HTI := Lib.hid hti
      have HR1 : Hid (RowS enc tail blk (P ++ (X.take i ++ (X.drop i ++ (y :: ([] ++ S))))) wr) := Lib.hid (by have := HR0.out.keep HK.out; rw [← List.append_assoc (X.take i), List.take_append_drop]; exact this)
      clear hti
      go_wp2_with fail
      go_loopw [17] (fun v17 wq => ∃ (A B : List Nat), v17 = .int .i64 ((i1 + A.length : Nat) : Int) ∧ A.length ≤ l - i ∧ Hid (X.drop i = A ++ B) ∧ Hid (RowS enc tail blk (P ++ (X.take i ++ (A ++ (y :: (B ++ S))))) wq) ∧ Hid (R.Keeps [blk] w wq)) (fun v17 _ => (intOf v17).toNat)
      case atStart => exact ⟨X.drop i, [], by rw [HTI.out]; congr 1; omega, by rw [HTI.out]; exact Nat.le_refl _, Lib.hid (by simp), HR1, Lib.hid (HK.out.mono (fun k hk => by simp at hk))⟩
      case round =>
        rename World => wq
        obtain ⟨A, B, rfl, hAi, HAB, HRq, HKq⟩ := hrel
        obtain ⟨k, hk⟩ : ∃ k, i1 + A.length = k := ⟨_, rfl⟩
        rw [hk]
        by_cases hlt2 : i1 < k
        · obtain ⟨A', z, rfl⟩ : ∃ A' z, A = A' ++ [z] := by
            have hne : A ≠ [] := by intro e; rw [e] at hk; simp at hk; omega
            exact ⟨A.dropLast, A.getLast hne, (List.dropLast_concat_getLast hne).symm⟩
          have hlt2' : (i1 : Int) < (k : Int) := by omega
          obtain ⟨k1, hk1⟩ : ∃ k1, k1 + 1 = k := ⟨k - 1, by omega⟩
          have hkk : (k : Int) - 1 = (k1 : Int) := by omega
          have wk := wr_small (x := k1) (by omega)
          have b1 : (k : Int) < (N : Int) := by omega
          have b2 : (k1 : Int) < (N : Int) := by omega
          have hAl : A'.length + 1 = k - i1 := by simp at hk; omega
          have hsp : P ++ (X.take i ++ ((A' ++ [z]) ++ (y :: (B ++ S)))) = (P ++ (X.take i ++ A')) ++ z :: ([] ++ y :: (B ++ S)) := by simp
          have ha : k1 = (P ++ (X.take i ++ A')).length := by simp [HL.out.1]; omega
          have hb : k = (P ++ (X.take i ++ A')).length + 1 + ([] : List Nat).length := by rw [← ha]; simp; omega
          have c1 : wq.cell? ⟨blk, k1 * 2, none⟩ = some (.int .i64 (enc z).1) := HRq.out.cell0 hsp ha
          have c1b : wq.cell? ⟨blk, k1 * 2 + 1, none⟩ = some (enc z).2 := HRq.out.cell1 hsp ha
          have c2 : wq.cell? ⟨blk, k * 2, none⟩ = some (.int .i64 (enc y).1) := HRq.out.cell0 (A := (P ++ (X.take i ++ A')) ++ [z]) (x := y) (B := B ++ S) (by simp) (by rw [hb]; simp; omega)
          have c2b : wq.cell? ⟨blk, k * 2 + 1, none⟩ = some (enc y).2 := HRq.out.cell1 (A := (P ++ (X.take i ++ A')) ++ [z]) (x := y) (B := B ++ S) (by simp) (by rw [hb]; simp; omega)
          have f1 := HRq.out.frozen (k * 2)
          have f1b := HRq.out.frozen (k * 2 + 1)
          have f2 := HRq.out.frozen (k1 * 2)
          have f2b := HRq.out.frozen (k1 * 2 + 1)
          obtain ⟨eu, heu⟩ : ∃ x_, (enc z).1 = x_ := ⟨_, rfl⟩
          obtain ⟨au, nu, cu, hfu⟩ := henc z
          have hvu : Value.agg #[.int .i64 eu, .slice au nu cu] = valP enc z := by unfold valP; rw [heu, hfu]
          obtain ⟨ev, hev⟩ : ∃ x_, (enc y).1 = x_ := ⟨_, rfl⟩
          obtain ⟨av, nv, cv, hfv⟩ := henc y
          have hvv : Value.agg #[.int .i64 ev, .slice av nv cv] = valP enc y := by unfold valP; rw [hev, hfv]
          rw [heu] at c1
          rw [hfu] at c1b
          rw [hev] at c2
          rw [hfv] at c2b
          have HEN := Lib.hid (And.intro (And.intro heu hfu) (And.intro (And.intro hev hfv) (And.intro hvu hvv)))
          clear hvu hvv
          have HSP := Lib.hid (And.intro hsp (And.intro ha hb))
          have HKA := Lib.hid hk
          have hcomm : ∀ (w : World), (((w.setCell ⟨blk, k * 2, none⟩ (.int .i64 eu)).setCell ⟨blk, k * 2 + 1, none⟩ (.slice au nu cu)).setCell ⟨blk, k1 * 2, none⟩ (.int .i64 ev)).setCell ⟨blk, k1 * 2 + 1, none⟩ (.slice av nv cv) = (((w.setCell ⟨blk, k1 * 2, none⟩ (.int .i64 ev)).setCell ⟨blk, k1 * 2 + 1, none⟩ (.slice av nv cv)).setCell ⟨blk, k * 2, none⟩ (.int .i64 eu)).setCell ⟨blk, k * 2 + 1, none⟩ (.slice au nu cu) := fun w => set4_comm w (by omega)
          have HCM := Lib.hid hcomm
          clear heu hfu hev hfv ha hb hsp hk hcomm
          go_wp2_with fail
          go_big_region_o
          all_goals go_wp2_with fail
          all_goals
            refine ⟨⟨A', z :: B, by have := HKA.out; simp only [List.length_append, List.length_cons, List.length_nil] at this; rw [show k1 = i1 + A'.length by omega], by simp only [List.length_append, List.length_cons, List.length_nil] at hAi; omega, Lib.hid (by rw [HAB.out]; simp), ?_, Lib.hid ((((((HKq.out).setCell (by simp) _).setCell (by simp) _).setCell (by simp) _).setCell (by simp) _).drew)⟩, by simp [intOf]; omega⟩
            have h5 := HRq.out.swap HSP.out.1 HSP.out.2.1 HSP.out.2.2
            rw [HEN.out.1.1, HEN.out.1.2, HEN.out.2.1.1, HEN.out.2.1.2, ← HCM.out] at h5
            exact Lib.hid (by simpa using h5.keep ((R.Keeps.refl [] _).drew))
        · have hlt2' : ¬ (i1 : Int) < (k : Int) := by omega
          go_wp2_with fail
          go_end0
          have hA : A = [] := List.eq_nil_of_length_eq_zero (by omega)
          subst hA
          have hB : B = X.drop i := by have := HAB.out; simpa using this.symm
          subst hB
          have hXs := HX.out
          rw [← List.take_append_drop i X] at hXs
          refine ⟨rfl, X.take i ++ y :: X.drop i, ?_, ?_, HKq.out, by simpa using HRq.out⟩
          · refine List.perm_middle.trans ?_
            rw [List.take_append_drop]
            exact (List.perm_append_comm (l₁ := [y]) (l₂ := X))
          · refine put_in hXs ?_ ?_
            · rcases HI.out with h1 | h1
              · left; rw [h1]; rfl
              · by_cases h0 : i = 0
                · left; rw [h0]; rfl
                · right
                  have hl : (X.take i).length = i := by simp; omega
                  rw [hl]
                  have : (X.take i).getD (i - 1) 0 = X.getD (i - 1) 0 := by simp [List.getD_eq_getElem?_getD, List.getElem?_take, show i - 1 < i by omega]
                  rw [this]; exact h1
            · rcases HJ.out with h1 | h1
              · left; rw [h1]; exact List.drop_eq_nil_of_le (by rw [HL.out.2]; exact Nat.le_refl _)
              · right
                have : (X.drop i).getD 0 0 = X.getD i 0 := by simp [List.getD_eq_getElem?_getD]
                rw [this]; exact h1
end Go.Proofs.Ytcpojohpmcnnhaa.AP
