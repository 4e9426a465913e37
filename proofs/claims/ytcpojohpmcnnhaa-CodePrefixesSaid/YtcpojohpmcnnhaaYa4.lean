/- What the statements of this seat lean on: the functions that they reach, walked. -/
import Derived.Laws.IdiomStrings
import Derived.Maps.AppendAt
import Derived.Laws.MakeOwn
import Derived.Deep.RegionHeld3
import Derived.Test.YtcpojohpmcnnhaaYa3
set_option linter.unusedSimpArgs false
set_option linter.unusedVariables false

set_option linter.unusedVariables false
set_option linter.unusedSimpArgs false
namespace Go.Proofs.Ytcpojohpmcnnhaa.A
open Go.RowKit Go.Proofs.YtcpojohpmcnnhaaW.PrintWords Go.Proofs.YtcpojohpmcnnhaaW.PrintLast Go.Proofs.YtcpojohpmcnnhaaW.PrintMore
open Go.Proofs.Ytcpojohpmcnnhaa.PA
theorem symMerge_c {key : Nat → Int} {enc : Nat → Value} (henc : ∀ x, ∃ v, enc x = .int .i64 v) {tail : List Value} {blk cap n g : Nat} {cb : Array Value} {w0 : World} (eg : Enters g) (hC : CmpS key enc n blk g cb w0) (N : Nat) (hn : N < 1000000) : ∀ K, MergeAt key enc tail blk cap n g cb w0 N K := by
  intro K
  induction K with
  | zero => intro P X Y S L a m b w _ hK _ _ _ _ _ _ h1 _; omega
  | succ K ih =>
  intro P X Y S L a m b w hL hK hK0 h hN ha hm hb hX0 hY0 hX hY hxy hxn hyn
  subst hL
  by_cases hx1 : X.length = 1
  · obtain ⟨x, rfl⟩ := List.length_eq_one_iff.1 hx1
    subst ha hm hb
    exact merge1_c henc eg hC P x Y S N w hK0 h hN hn hY0 hY (hxy x (by simp)) (hxn x (by simp)) hyn
  by_cases hy1 : Y.length = 1
  · obtain ⟨y, rfl⟩ := List.length_eq_one_iff.1 hy1
    subst ha hm hb
    exact merge2_c henc eg hC P X y S N w hK0 h hN hn (by omega) hX (fun x hx => hxy x hx y (by simp)) hxn (hyn y (by simp))
  by_cases hs : (P.length + (P.length + X.length + Y.length)) / 2 < P.length + X.length
  · exact symMerge_gt henc eg hC N hn K ih P X Y S a m b w hK hK0 h hN ha hm hb hX0 hY0 hX hY hxy hxn hyn hx1 hy1 hs
  · exact symMerge_le henc eg hC N hn K ih P X Y S a m b w hK hK0 h hN ha hm hb hX0 hY0 hX hY hxy hxn hyn hx1 hy1 hs
end Go.Proofs.Ytcpojohpmcnnhaa.A

set_option linter.unusedVariables false
set_option linter.unusedSimpArgs false
namespace Go.Proofs.Ytcpojohpmcnnhaa.A
open Go.RowKit Go.Proofs.YtcpojohpmcnnhaaW.PrintWords Go.Proofs.YtcpojohpmcnnhaaW.PrintLast Go.Proofs.YtcpojohpmcnnhaaW.PrintMore
open Go.Proofs.Ytcpojohpmcnnhaa.PA
set_option maxHeartbeats 8000000 in
set_option maxRecDepth 100000 in
theorem insert_none (N cap blk : Nat) (f : Value) (a : Nat) (w : World) (ha : a < 1000000) :
    Calls Try.prog 99 #[.slice (some ⟨blk, 0, none⟩) N cap, .int .i64 (a : Int), .int .i64 (a : Int), f] w fun e w' => e = .returned (.tuple #[]) ∧ w' = w := by
  have wa := wr_small (x := a + 1) (by omega)
  have h1 : ¬ ((a : Int) + 1 < (a : Int)) := by omega
  go_enter Try.func99, Try.ntmps99
  go_wp2_with fail
  refine wp_loop_rounds 1 ?_
  rw [rounds_succ]
  go_wp2_with fail
  go_end0
  exact ⟨rfl, rfl⟩
set_option maxHeartbeats 8000000 in
set_option maxRecDepth 100000 in
theorem insert_c {key : Nat → Int} {enc : Nat → Value} (henc : ∀ x, ∃ v, enc x = .int .i64 v) {tail : List Value} {blk cap n g : Nat} {cb : Array Value} {w0 : World} (eg : Enters g) (hC : CmpS key enc n blk g cb w0)
    (P X S : List Nat) (N : Nat) (w : World) (hK0 : R.Keeps [blk] w0 w) (h : RowS enc 3 tail blk (P ++ (X ++ S)) w) (hN : (P ++ (X ++ S)).length = N) (hn : N < 1000000)
    (hX0 : 0 < X.length) (hX : X.Pairwise (· < ·)) (hxn : ∀ x, x ∈ X → x < n) :
    Calls Try.prog 99 #[.slice (some ⟨blk, 0, none⟩) N cap, .int .i64 (P.length : Int), .int .i64 ((P.length + X.length : Nat) : Int), .func (.func g) #[] cb] w (Merged key enc tail blk P X [] S w) := by
  unfold Enters at eg
  have mixed : Try.prog.follows Departure.mixedOrders = true := by kernel_rfl
  have hNs : P.length + X.length + S.length = N := by rw [← hN]; simp; omega
  have HR0 := Lib.hid h
  have HC := Lib.hid hC
  have HK0 := Lib.hid hK0
  have HX := Lib.hid hX
  have HXN := Lib.hid hxn
  obtain ⟨a, ha⟩ : ∃ a, P.length = a := ⟨_, rfl⟩
  obtain ⟨l, hl⟩ : ∃ l, X.length = l := ⟨_, rfl⟩
  rw [ha, hl] at hNs
  rw [hl] at hX0
  rw [ha, hl]
  have HL := Lib.hid (And.intro ha hl)
  clear h hC hK0 hX hxn hN ha hl
  obtain ⟨b, hb⟩ : ∃ b, a + l = b := ⟨_, rfl⟩
  obtain ⟨a1, ha1⟩ : ∃ a1, a + 1 = a1 := ⟨_, rfl⟩
  rw [hb]
  have e1 : (a : Int) + 1 = (a1 : Int) := by omega
  have wa := wr_small (x := a1) (by omega)
  go_enter Try.func99, Try.ntmps99
  go_wp2_with fail
  go_loopw [8] (fun v8 wr => ∃ (A B A' : List Nat), v8 = .int .i64 ((a + A.length : Nat) : Int) ∧ 0 < A.length ∧ A.length + B.length = l ∧ Hid (X = A ++ B ∧ A'.Perm A ∧ Srt key A') ∧ Hid (RowS enc 3 tail blk (P ++ (A' ++ (B ++ S))) wr) ∧ Hid (R.Keeps [blk] w wr)) (fun v8 _ => b - (intOf v8).toNat)
  case atStart =>
    obtain ⟨x, X', hx⟩ : ∃ x X', X = x :: X' := by
      cases X with
      | nil => have := HL.out.2; simp at this; omega
      | cons x X' => exact ⟨x, X', rfl⟩
    exact ⟨[x], X', [x], by rw [← ha1]; rfl, by simp, by have := HL.out.2; rw [hx] at this; simp at this ⊢; omega, Lib.hid ⟨hx, List.Perm.refl _, List.pairwise_singleton _ _⟩, Lib.hid (by have := HR0.out; rw [hx] at this; exact this), Lib.hid (R.Keeps.refl _ _)⟩
  case round =>
    rename World => wr
    obtain ⟨A, B, A', rfl, hA0, hAB, HD, HR, HK⟩ := hrel
    obtain ⟨i, hi⟩ : ∃ i, a + A.length = i := ⟨_, rfl⟩
    rw [hi]
    by_cases hlt : i < b
    · have hlt' : (i : Int) < (b : Int) := by omega
      obtain ⟨x, B', rfl⟩ : ∃ x B', B = x :: B' := by
        cases B with
        | nil => simp at hAB; omega
        | cons x B' => exact ⟨x, B', rfl⟩
      have hlx : ∀ y, y ∈ A' → y < x := fun y hy => by
        have h1 := HX.out
        rw [HD.out.1] at h1
        exact (List.pairwise_append.1 h1).2.2 y (HD.out.2.1.subset hy) x (by simp)
      have hxx : x < n := HXN.out x (by rw [HD.out.1]; simp)
      have HLX := Lib.hid hlx
      clear hlx
      go_wp2_with fail
      go_loopw [9] (fun v9 wq => ∃ (C D : List Nat), v9 = .int .i64 ((a + C.length : Nat) : Int) ∧ C.length + D.length = A.length ∧ Hid (A' = C ++ D ∧ (D = [] ∨ lx key x (D.getD 0 0))) ∧ Hid (RowS enc 3 tail blk (P ++ (C ++ (x :: (D ++ (B' ++ S))))) wq) ∧ Hid (R.Keeps [blk] w wq)) (fun v9 _ => (intOf v9).toNat)
      case atStart => exact ⟨A', [], by rw [HD.out.2.1.length_eq, hi], by rw [HD.out.2.1.length_eq]; rfl, Lib.hid ⟨by simp, .inl rfl⟩, HR, HK⟩
      case round =>
        rename World => wq
        obtain ⟨C, D, rfl, hCD, HE, HRq, HKq⟩ := hrel
        have OUT : C = [] ∨ lx key (C.getD (C.length - 1) 0) x → Hid ((C ++ x :: D).Perm (A ++ [x]) ∧ Srt key (C ++ x :: D)) := fun hc => by
          refine Lib.hid ⟨?_, ?_⟩
          · refine List.perm_middle.trans ?_
            rw [← HE.out.1]
            exact ((List.perm_cons x).2 HD.out.2.1).trans (List.perm_append_comm (l₁ := [x]) (l₂ := A))
          · have h1 := HD.out.2.2
            rw [HE.out.1] at h1
            exact put_in h1 hc HE.out.2
        have OUTH := Lib.hid OUT
        clear OUT
        by_cases hc0 : C = []
        · subst hc0
          obtain ⟨j, hj⟩ : ∃ j, a + ([] : List Nat).length = j := ⟨_, rfl⟩
          rw [hj]
          have j1 : ¬ ((a : Int) < (j : Int)) := by rw [← hj]; simp
          have j2 : decide ((a : Int) < (j : Int)) = false := decide_eq_false j1
          have j3 : decide ((j : Int) > (a : Int)) = false := decide_eq_false j1
          have HD4 : Hid (decide (a < j) = false) := Lib.hid (decide_eq_false (by rw [← hj]; simp))
          have HO := OUTH.out (.inl rfl)
          obtain ⟨i2, hi2⟩ : ∃ i2, i + 1 = i2 := ⟨_, rfl⟩
          have e5 : (i : Int) + 1 = (i2 : Int) := by omega
          have w5 := wr_small (x := i2) (by omega)
          have HOH := Lib.hid HO
          clear HO hj
          go_wp2_with fail
          apply R.wp_region_text [0, 1, 2, 3, 4, 5, 6, 7, 8, 9, 10, 11, 12, 13] [14, 15, 16] 17 (R.Keeps [] wq)
          case hm => kernel_rfl
          case hB => kernel_rfl
          case hd => rfl
          case hQ => exact fun _ _ _ _ _ h => h
          case hS => exact (R.Keeps.refl _ _).drew
          case hF =>
            intro w' hS
            clear hS
            simp only [R.pickC, List.filterMap_cons, List.getElem?_toArray, List.getElem?_cons_zero, List.getElem?_cons_succ, List.filterMap_nil]
            (with_reducible refine R.wpStill_plain rfl (fun K hK => ?_)); go_simp; with_reducible refine hK _ ?_; clear hK K
            (with_reducible refine R.wpStill_plain rfl (fun K hK => ?_)); go_simp; with_reducible refine hK _ ?_; clear hK K
            (with_reducible refine R.wpStill_plain rfl (fun K hK => ?_)); go_simp; with_reducible refine hK _ ?_; clear hK K
            (with_reducible refine R.wpStill_plain rfl (fun K hK => ?_)); go_simp; with_reducible refine hK _ ?_; clear hK K
            refine R.wpStill_no rfl (by exact rfl) (by rw [HD4.out]; rfl) ?_; simp only [Act.put, List.setIfInBounds_toArray, List.set_cons_zero, List.set_cons_succ]
            refine R.wpStill_no rfl (by exact rfl) (by rw [HD4.out]; rfl) ?_; simp only [Act.put, List.setIfInBounds_toArray, List.set_cons_zero, List.set_cons_succ]
            refine R.wpStill_no rfl (by exact rfl) (by rw [HD4.out]; rfl) ?_; simp only [Act.put, List.setIfInBounds_toArray, List.set_cons_zero, List.set_cons_succ]
            refine R.wpStill_no rfl (by exact rfl) (by rw [HD4.out]; rfl) ?_; simp only [Act.put, List.setIfInBounds_toArray, List.set_cons_zero, List.set_cons_succ]
            refine R.wpStill_no rfl (by exact rfl) (by rw [HD4.out]; rfl) ?_; simp only [Act.put, List.setIfInBounds_toArray, List.set_cons_zero, List.set_cons_succ]
            refine R.wpStill_no rfl (by exact rfl) (by rw [HD4.out]; rfl) ?_; simp only [Act.put, List.setIfInBounds_toArray, List.set_cons_zero, List.set_cons_succ]
            refine R.wpStill_no rfl (by exact rfl) (by rw [HD4.out]; rfl) ?_; simp only [Act.put, List.setIfInBounds_toArray, List.set_cons_zero, List.set_cons_succ]
            refine R.wpStill_no rfl (by exact rfl) (by rw [HD4.out]; rfl) ?_; simp only [Act.put, List.setIfInBounds_toArray, List.set_cons_zero, List.set_cons_succ]
            refine R.wpStill_no rfl (by exact rfl) (by rw [HD4.out]; rfl) ?_; simp only [Act.put, List.setIfInBounds_toArray, List.set_cons_zero, List.set_cons_succ]
            refine R.wpStill_no rfl (by exact rfl) (by rw [HD4.out]; rfl) ?_; simp only [Act.put, List.setIfInBounds_toArray, List.set_cons_zero, List.set_cons_succ]
            exact wpStill_nil rfl
          case hC =>
            simp only [R.chainOf, List.getElem?_toArray, List.getElem?_cons_zero, List.getElem?_cons_succ, Nat.reduceBNe, Bool.and_true, Bool.and_false, Bool.false_and]
            rw [HD4.out]
            refine R.wpSeq_same (fun K hK => ?_)
            rw [if_neg (by exact Bool.false_ne_true)]
            refine hK _ _ ((R.Keeps.refl _ _).drew) ?_
            clear hK K
            simp only [Act.put, List.setIfInBounds_toArray, List.set_cons_zero, List.set_cons_succ]
            refine R.wpSeq_same (fun K hK => ?_)
            rw [if_neg (by exact Bool.false_ne_true)]
            refine hK _ _ ((R.Keeps.refl _ _).drew) ?_
            clear hK K
            simp only [Act.put, List.setIfInBounds_toArray, List.set_cons_zero, List.set_cons_succ]
            refine R.wpSeq_same (fun K hK => ?_)
            go_simp
            with_reducible refine hK _ _ ((R.Keeps.refl _ _).drew) ?_
            clear hK K
            refine R.wpSeq_nil ?_
            go_wp2_with fail
            refine ⟨⟨A ++ [x], B', [] ++ x :: D, by simp; omega, by simp, by simp at hAB ⊢; omega, Lib.hid ⟨by rw [HD.out.1]; simp, HOH.out.out.1, HOH.out.out.2⟩, Lib.hid (by have := HRq.out.keep (R.Keeps.refl [] _).drew; simpa using this), Lib.hid HKq.out.drew⟩, by simp [intOf]; omega⟩
        · obtain ⟨C', c, rfl⟩ : ∃ C' c, C = C' ++ [c] := ⟨C.dropLast, C.getLast hc0, (List.dropLast_concat_getLast hc0).symm⟩
          obtain ⟨j, hj⟩ : ∃ j, a + (C' ++ [c]).length = j := ⟨_, rfl⟩
          rw [hj]
          have hjc : a + C'.length + 1 = j := by rw [← hj]; simp; omega
          obtain ⟨jp, hjp⟩ : ∃ jp, jp + 1 = j := ⟨j - 1, by omega⟩
          have j1 : (a : Int) < (j : Int) := by omega
          have j2 : decide ((a : Int) < (j : Int)) = true := decide_eq_true j1
          have e6 : (j : Int) - 1 = (jp : Int) := by omega
          have w6 := wr_small (x := jp) (by omega)
          have hCl : (C' ++ [c]).length = C'.length + 1 := by simp
          rw [hCl] at hCD
          have b1 : (j : Int) < (N : Int) := by simp at hAB; omega
          have b2 : (jp : Int) < (N : Int) := by omega
          have hsp : P ++ ((C' ++ [c]) ++ (x :: (D ++ (B' ++ S)))) = (P ++ C') ++ c :: ([] ++ x :: (D ++ (B' ++ S))) := by simp
          have hpa : jp = (P ++ C').length := by simp [HL.out.1]; omega
          have hpb : j = (P ++ C').length + 1 + ([] : List Nat).length := by rw [← hpa]; simp; omega
          have c1 : wq.cell? ⟨blk, jp, none⟩ = some (enc c) := HRq.out.cell hsp hpa
          have c2 : wq.cell? ⟨blk, j, none⟩ = some (enc x) := HRq.out.cell (A := (P ++ C') ++ [c]) (x := x) (B := D ++ (B' ++ S)) (by simp) (by rw [hpb]; simp; omega)
          have hcx : c < x := HLX.out c (by rw [HE.out.1]; simp)
          have hcn : c < n := by omega
          have hlast : (C' ++ [c]).getD ((C' ++ [c]).length - 1) 0 = c := by simp [List.getD_eq_getElem?_getD]
          have HLA := Lib.hid hlast
          obtain ⟨eu, heu⟩ := henc x
          obtain ⟨ev, hev⟩ := henc c
          rw [heu] at c2
          rw [hev] at c1
          have CE : Hid (∀ w', R.Keeps [] wq w' → w'.cell? ⟨blk, j, none⟩ = some (.int .i64 eu) ∧ w'.cell? ⟨blk, jp, none⟩ = some (.int .i64 ev)) := Lib.hid (fun w' hw => ⟨hw.cell c2 (by simp), hw.cell c1 (by simp)⟩)
          have HKW := Lib.hid (HK0.out.trans HKq.out (fun k hk _ => hk))
          have HEN := Lib.hid (And.intro heu hev)
          have HSP := Lib.hid (And.intro hsp (And.intro hpa hpb))
          have HJ := Lib.hid hjc
          obtain ⟨i2, hi2⟩ : ∃ i2, i + 1 = i2 := ⟨_, rfl⟩
          have e5 : (i : Int) + 1 = (i2 : Int) := by omega
          have w5 := wr_small (x := i2) (by omega)
          clear hj hsp hpa hpb heu hev c1 c2 hlast hCl
          go_wp2_with fail
          apply R.wp_region_text [0, 1, 2, 3, 4, 5, 6, 7, 8, 9, 10, 11, 12, 13] [14, 15, 16] 17 (R.Keeps [] wq)
          case hm => kernel_rfl
          case hB => kernel_rfl
          case hd => rfl
          case hQ => exact fun _ _ _ _ _ h => h
          case hS => exact (R.Keeps.refl _ _).drew
          case hF =>
            intro w' hS
            obtain ⟨y0, y1⟩ := CE.out w' hS
            clear hS
            simp only [R.pickC, List.filterMap_cons, List.getElem?_toArray, List.getElem?_cons_zero, List.getElem?_cons_succ, List.filterMap_nil]
            (with_reducible refine R.wpStill_plain rfl (fun K hK => ?_)); go_simp; with_reducible refine hK _ ?_; clear hK K
            (with_reducible refine R.wpStill_plain rfl (fun K hK => ?_)); go_simp; with_reducible refine hK _ ?_; clear hK K
            (with_reducible refine R.wpStill_plain rfl (fun K hK => ?_)); go_simp; with_reducible refine hK _ ?_; clear hK K
            (with_reducible refine R.wpStill_plain rfl (fun K hK => ?_)); go_simp; with_reducible refine hK _ ?_; clear hK K
            (refine R.wpStill_yes rfl (by exact rfl) (fun K hK => ?_)); go_simp; with_reducible refine hK _ ?_; clear hK K
            (refine R.wpStill_yes rfl (by exact rfl) (fun K hK => ?_)); go_simp; with_reducible refine hK _ ?_; clear hK K
            (refine R.wpStill_yes rfl (by exact rfl) (fun K hK => ?_)); go_simp; with_reducible refine hK _ ?_; clear hK K
            (refine R.wpStill_yes rfl (by exact rfl) (fun K hK => ?_)); go_simp; with_reducible refine hK _ ?_; clear hK K
            (refine R.wpStill_yes rfl (by exact rfl) (fun K hK => ?_)); go_simp; with_reducible refine hK _ ?_; clear hK K
            (refine R.wpStill_yes rfl (by exact rfl) (fun K hK => ?_)); go_simp; with_reducible refine hK _ ?_; clear hK K
            (refine R.wpStill_yes rfl (by exact rfl) (fun K hK => ?_)); go_simp; with_reducible refine hK _ ?_; clear hK K
            (refine R.wpStill_yes rfl (by exact rfl) (fun K hK => ?_)); go_simp; with_reducible refine hK _ ?_; clear hK K
            (refine R.wpStill_yes rfl (by exact rfl) (fun K hK => ?_)); go_simp; with_reducible refine hK _ ?_; clear hK K
            (refine R.wpStill_yes rfl (by exact rfl) (fun K hK => ?_)); go_simp; with_reducible refine hK _ ?_; clear hK K
            exact wpStill_nil rfl
          case hC =>
            simp only [R.chainOf, List.getElem?_toArray, List.getElem?_cons_zero, List.getElem?_cons_succ, Nat.reduceBNe, Bool.and_true, Bool.and_false, Bool.false_and]
            refine R.wpSeq_same (fun K hK => ?_)
            go_simp
            rw [← HEN.out.1, ← HEN.out.2]
            refine (HC.out _ HKW.out.drew x c hxx hcn).mono ?_
            rintro e w2 ⟨cr, rfl, hcr, hB2⟩
            have hK2 : R.Keeps [] wq w2 := ((R.Keeps.refl [] _).drew).trans (R.Keeps.of_below [] hB2) (fun k hk => by simp at hk)
            refine hK _ _ hK2 ?_
            clear hK K
            have HK2 := Lib.hid hK2
            clear hB2 hK2
            by_cases hneg : cr < 0
            · have HNEG : Hid (lx key x c) := Lib.hid (.inl (hcr.1 hneg))
              clear hcr
              refine R.wpSeq_same (fun K hK => ?_)
              go_simp
              with_reducible refine hK _ _ HK2.out ?_
              clear hK K
              refine R.wpSeq_same (fun K hK => ?_)
              go_simp
              with_reducible refine hK _ _ HK2.out ?_
              clear hK K
              refine R.wpSeq_nil ?_
              have HR2 := Lib.hid (HRq.out.keep HK2.out)
              obtain ⟨c2, c1⟩ := CE.out w2 HK2.out
              have f1 := HR2.out.frozen jp
              have f2 := HR2.out.frozen j
              go_wp2_with fail
              go_big_region_o
              all_goals go_wp2_with fail
              all_goals
                refine ⟨⟨C', c :: D, by congr 1; omega, by simp at hCD ⊢; omega, Lib.hid ⟨by rw [HE.out.1]; simp, .inr HNEG.out⟩, ?_, Lib.hid (((((HKq.out.trans HK2.out (fun k hk => by simp at hk))).setCell (by simp) _).setCell (by simp) _).drew)⟩, by simp [intOf]; omega⟩
                have h5 := HR2.out.swap HSP.out.1 HSP.out.2.1 HSP.out.2.2
                rw [HEN.out.1, HEN.out.2, setCell_comm _ (by omega)] at h5
                exact Lib.hid (by simpa using h5.keep ((R.Keeps.refl [] _).drew))
            · have HNEG : Hid (lx key c x) := Lib.hid (lx.not (fun hh => hneg (hcr.2 ((lx_right hcx).1 hh))) (by omega))
              have hnn' : decide (cr < 0) = false := decide_eq_false hneg
              clear hcr
              refine R.wpSeq_same (fun K hK => ?_)
              go_simp
              with_reducible refine hK _ _ HK2.out ?_
              clear hK K
              refine R.wpSeq_same (fun K hK => ?_)
              go_simp
              with_reducible refine hK _ _ HK2.out ?_
              clear hK K
              refine R.wpSeq_nil ?_
              go_wp2_with fail
              have HO := OUTH.out (.inr (by rw [HLA.out]; exact HNEG.out))
              refine ⟨⟨A ++ [x], B', (C' ++ [c]) ++ x :: D, by simp; omega, by simp, by simp at hAB ⊢; omega, Lib.hid ⟨by rw [HD.out.1]; simp, HO.out.1, HO.out.2⟩, Lib.hid (by have := HRq.out.keep HK2.out; simpa using this), Lib.hid (HKq.out.trans HK2.out (fun k hk => by simp at hk))⟩, by simp [intOf]; omega⟩
    · obtain rfl : i = b := by omega
      have hB : B = [] := List.eq_nil_of_length_eq_zero (by omega)
      subst hB
      have h1 : ¬ ((i : Int) < (i : Int)) := by omega
      go_wp2_with fail
      go_end0
      refine ⟨rfl, A', ?_, HD.out.2.2, HK.out, by simpa using HR.out⟩
      have := HD.out.1
      simp at this
      rw [this, List.append_nil]
      exact HD.out.2.1
end Go.Proofs.Ytcpojohpmcnnhaa.A

set_option linter.unusedVariables false
set_option linter.unusedSimpArgs false
namespace Go.Proofs.Ytcpojohpmcnnhaa.A
open Go.RowKit Go.Proofs.YtcpojohpmcnnhaaW.PrintWords Go.Proofs.YtcpojohpmcnnhaaW.PrintLast Go.Proofs.YtcpojohpmcnnhaaW.PrintMore
open Go.Proofs.Ytcpojohpmcnnhaa.PA
inductive Full (key : Nat → Int) (bs : Nat) : List Nat → List Nat → Prop
  | nil : Full key bs [] []
  | cons {Z X D D0 : List Nat} : Z.Perm X → Srt key Z → X.length = bs → Full key bs D D0 → Full key bs (Z ++ D) (X ++ D0)
theorem Full.snoc {key : Nat → Int} {bs : Nat} {D D0 Z X : List Nat} (h : Full key bs D D0) (h1 : Z.Perm X) (h2 : Srt key Z) (h3 : X.length = bs) : Full key bs (D ++ Z) (D0 ++ X) := by
  induction h with
  | nil => have := Full.cons h1 h2 h3 Full.nil; simpa using this
  | cons a b c _ ih => rw [List.append_assoc, List.append_assoc]; exact Full.cons a b c ih
theorem Full.perm {key : Nat → Int} {bs : Nat} {D D0 : List Nat} (h : Full key bs D D0) : D.Perm D0 := by
  induction h with
  | nil => exact List.Perm.refl _
  | cons a _ _ _ ih => exact a.append ih
theorem Full.mult {key : Nat → Int} {bs : Nat} {D D0 : List Nat} (h : Full key bs D D0) : D = [] ∧ D0 = [] ∨ ∃ Z X D' D0', D = Z ++ D' ∧ D0 = X ++ D0' ∧ Z.Perm X ∧ Srt key Z ∧ X.length = bs ∧ Full key bs D' D0' := by
  cases h with
  | nil => exact .inl ⟨rfl, rfl⟩
  | cons a b c d => exact .inr ⟨_, _, _, _, rfl, rfl, a, b, c, d⟩
def Blk (key : Nat → Int) (bs : Nat) (L X : List Nat) : Prop := ∃ D D0 Z Y, L = D ++ Z ∧ X = D0 ++ Y ∧ Full key bs D D0 ∧ Z.Perm Y ∧ Srt key Z ∧ Y.length < bs
theorem Blk.done {key : Nat → Int} {bs : Nat} {L X : List Nat} (h : Blk key bs L X) (hl : X.length ≤ bs) : L.Perm X ∧ Srt key L := by
  obtain ⟨D, D0, Z, Y, rfl, rfl, hF, hp, hs, hy⟩ := h
  refine ⟨hF.perm.append hp, ?_⟩
  rcases hF.mult with ⟨rfl, rfl⟩ | ⟨Z', X', D', D0', rfl, rfl, h1, h2, h3, h4⟩
  · simpa using hs
  · simp at hl
    have e1 : D0' = [] := List.eq_nil_of_length_eq_zero (by omega)
    have e2 : Y = [] := List.eq_nil_of_length_eq_zero (by omega)
    subst e1 e2
    have e3 : D' = [] := List.Perm.eq_nil h4.perm
    have e4 : Z = [] := List.Perm.eq_nil hp
    subst e3 e4
    simpa using h2
set_option maxHeartbeats 8000000 in
set_option maxRecDepth 100000 in
theorem stable_c {key : Nat → Int} {enc : Nat → Value} (henc : ∀ x, ∃ v, enc x = .int .i64 v) {tail : List Value} {blk cap n g : Nat} {cb : Array Value} {w0 : World} (eg : Enters g) (hC : CmpS key enc n blk g cb w0)
    (X : List Nat) (N : Nat) (w : World) (hK0 : R.Keeps [blk] w0 w) (h : RowS enc 3 tail blk X w) (hN : X.length = N) (hn : N < 500000) (hX : X.Pairwise (· < ·)) (hxn : ∀ x, x ∈ X → x < n) :
    Calls Try.prog 95 #[.slice (some ⟨blk, 0, none⟩) N cap, .int .i64 (N : Int), .func (.func g) #[] cb] w fun e w' => e = .returned (.tuple #[]) ∧ ∃ Z, Z.Perm X ∧ Srt key Z ∧ R.Keeps [blk] w w' ∧ RowS enc 3 tail blk Z w' := by
  have e99 : ∀ args w, (callFunc 99 args).run Try.prog w = .ok (.enter 99 args) w := enters_mk Try.func99 (by kernel_rfl) rfl
  have e100 : ∀ args w, (callFunc 100 args).run Try.prog w = .ok (.enter 100 args) w := enters_mk Try.func100 (by kernel_rfl) rfl
  have HR0 := Lib.hid h
  have HC := Lib.hid hC
  have HK0 := Lib.hid hK0
  have HX := Lib.hid hX
  have HXN := Lib.hid hxn
  have HN := Lib.hid hN
  have EG := Lib.hid eg
  clear h hC hK0 hX hxn hN eg
  go_enter Try.func95, Try.ntmps95
  go_wp2_with fail
  go_loopw [7, 8] (fun v7 v8 wr => ∃ (D D0 R1 : List Nat), v7 = .int .i64 (D.length : Int) ∧ v8 = .int .i64 ((D.length + 20 : Nat) : Int) ∧ D.length + R1.length = N ∧ Hid (X = D0 ++ R1 ∧ Full key 20 D D0) ∧ Hid (RowS enc 3 tail blk (D ++ R1) wr) ∧ Hid (R.Keeps [blk] w wr)) (fun v7 _ _ => N - (intOf v7).toNat)
  case atStart => exact ⟨[], [], X, rfl, rfl, by simp [HN.out], Lib.hid ⟨rfl, Full.nil⟩, HR0, Lib.hid (R.Keeps.refl _ _)⟩
  case round =>
    rename World => wr
    obtain ⟨D, D0, R1, rfl, rfl, hDR, HD, HR, HK⟩ := hrel
    obtain ⟨a, ha⟩ : ∃ a, D.length = a := ⟨_, rfl⟩
    obtain ⟨b, hb⟩ : ∃ b, a + 20 = b := ⟨_, rfl⟩
    rw [ha] at hDR
    rw [ha, hb]
    have HA := Lib.hid ha
    clear ha
    have hlx : ∀ U V : List Nat, R1 = U ++ V → U.Pairwise (· < ·) ∧ ∀ x, x ∈ U → x < n := fun U V e => by
      have h1 := HX.out
      rw [HD.out.1, e] at h1
      refine ⟨(List.pairwise_append.1 (List.pairwise_append.1 h1).2.1).1, fun x hx => HXN.out x ?_⟩
      rw [HD.out.1, e]
      simp [hx]
    have HLX := Lib.hid hlx
    clear hlx
    by_cases hle : b ≤ N
    · have hle' : (b : Int) ≤ (N : Int) := by omega
      obtain ⟨U, V, hUV, hU⟩ : ∃ U V, R1 = U ++ V ∧ U.length = 20 := ⟨R1.take 20, R1.drop 20, (List.take_append_drop _ _).symm, by simp; omega⟩
      obtain ⟨b2, hb2⟩ : ∃ b2, b + 20 = b2 := ⟨_, rfl⟩
      have e2 : (b : Int) + 20 = (b2 : Int) := by omega
      have w2 := wr_small (x := b2) (by omega)
      have HUV := Lib.hid (And.intro hUV hU)
      clear hUV hU
      have hcall := insert_c henc EG.out HC.out (cap := cap) D U V N wr (HK0.out.trans HK.out (fun k hk _ => hk)) (by have := HR.out; rw [HUV.out.1] at this; exact this) (by have := HUV.out; have h2 := HA.out; rw [this.1] at hDR; simp at hDR ⊢; omega) (by omega) (by have := HUV.out.2; omega) (HLX.out U V HUV.out.1).1 (HLX.out U V HUV.out.1).2
      rw [HA.out, HUV.out.2, hb] at hcall
      have HCALL := Lib.hid hcall
      clear hcall
      go_wp2_with fail
      refine HCALL.out.mono ?_
      rintro e w4 ⟨rfl, Z, hz1, hz2, hz3, hz4⟩
      rw [List.append_nil] at hz1
      have HZ := Lib.hid (And.intro hz1 hz2)
      have HK4 := Lib.hid (HK.out.trans hz3 (fun k hk _ => hk))
      have HR4 := Lib.hid hz4
      clear hz1 hz2 hz3 hz4
      go_wp2_with fail
      have hzl : Z.length = 20 := by rw [HZ.out.1.length_eq]; exact HUV.out.2
      refine ⟨⟨D ++ Z, D0 ++ U, V, by rw [List.length_append, HA.out, hzl, hb], by rw [List.length_append, HA.out, hzl, hb]; congr 1; omega, by have h1 := HUV.out; rw [h1.1] at hDR; simp at hDR ⊢; have := HA.out; omega, Lib.hid ⟨by rw [HD.out.1, HUV.out.1, List.append_assoc], HD.out.2.snoc HZ.out.1 HZ.out.2 HUV.out.2⟩, Lib.hid (by rw [List.append_assoc]; exact HR4.out), HK4⟩, by simp [intOf]; omega⟩
    · have hle' : ¬ (b : Int) ≤ (N : Int) := by omega
      have hcall : Calls Try.prog 99 #[.slice (some ⟨blk, 0, none⟩) N cap, .int .i64 (a : Int), .int .i64 (N : Int), .func (.func g) #[] cb] wr fun e w' => e = .returned (.tuple #[]) ∧ ∃ Z, Z.Perm R1 ∧ Srt key Z ∧ R.Keeps [blk] wr w' ∧ RowS enc 3 tail blk (D ++ Z) w' := by
        by_cases h0 : R1 = []
        · have haN : a = N := by rw [h0] at hDR; simpa using hDR
          rw [haN]
          refine (insert_none N cap blk _ N wr (by omega)).mono ?_
          rintro e w' ⟨rfl, rfl⟩
          exact ⟨rfl, [], by rw [h0], Srt.nil, R.Keeps.refl _ _, by have := HR.out; rw [h0] at this; exact this⟩
        · have hl0 : 0 < R1.length := by
            rcases Nat.eq_zero_or_pos R1.length with h | h
            · exact absurd (List.eq_nil_of_length_eq_zero h) h0
            · exact h
          have := insert_c henc EG.out HC.out (cap := cap) D R1 [] N wr (HK0.out.trans HK.out (fun k hk _ => hk)) (by have := HR.out; simpa using this) (by have h2 := HA.out; simp; omega) (by omega) hl0 (HLX.out R1 [] (by simp)).1 (HLX.out R1 [] (by simp)).2
          rw [HA.out, hDR] at this
          refine this.mono ?_
          rintro e w' ⟨rfl, Z, hz1, hz2, hz3, hz4⟩
          rw [List.append_nil] at hz1 hz4
          exact ⟨rfl, Z, hz1, hz2, hz3, hz4⟩
      have HCALL := Lib.hid hcall
      clear hcall
      go_wp2_with fail
      refine HCALL.out.mono ?_
      rintro e w4 ⟨rfl, Z, hz1, hz2, hz3, hz4⟩
      have HB0 : Hid (Blk key 20 (D ++ Z) X) := Lib.hid ⟨D, D0, Z, R1, rfl, HD.out.1, HD.out.2, hz1, hz2, by omega⟩
      have HK4 := Lib.hid (HK.out.trans hz3 (fun k hk _ => hk))
      have HR4 := Lib.hid hz4
      clear hz1 hz2 hz3 hz4
      obtain ⟨L, hL⟩ : ∃ L, D ++ Z = L := ⟨_, rfl⟩
      rw [hL] at HB0 HR4
      clear hL HD HR HK HA HLX HCALL hDR hle hle'
      go_wp2_with fail
      go_loopw [6] (fun v6 wo => ∃ (bs : Nat) (L : List Nat), v6 = .int .i64 (bs : Int) ∧ 0 < bs ∧ bs < 1000000 ∧ Hid (Blk key bs L X) ∧ Hid (RowS enc 3 tail blk L wo) ∧ Hid (R.Keeps [blk] w wo)) (fun v6 _ => 1000000 - (intOf v6).toNat)
      case atStart => exact ⟨20, L, rfl, by omega, by omega, HB0, HR4, HK4⟩
      case round =>
        rename World => wo
        obtain ⟨bs, L, rfl, hb0, hbm, HB, HR, HK⟩ := hrel
        by_cases hlt : bs < N
        · have hlt' : (bs : Int) < (N : Int) := by omega
          obtain ⟨b2, hb2⟩ : ∃ b2, 2 * bs = b2 := ⟨_, rfl⟩
          have e2 : 2 * (bs : Int) = (b2 : Int) := by omega
          have e3 : (bs : Int) * 2 = (b2 : Int) := by omega
          have w2 := wr_small (x := b2) (by omega)
          have hbb := HB.out
          obtain ⟨D, D0, Z, Y, rfl, hXe, hF, hp, hs, hy⟩ := hbb
          have HXE := Lib.hid (And.intro hXe hF)
          have HZ := Lib.hid (And.intro hp hs)
          have hNY : D.length + Y.length = N := by
            have h1 := HN.out
            rw [hXe] at h1
            simp at h1
            have h2 := hF.perm.length_eq
            omega
          clear hXe hF hp hs HB
          go_wp2_with fail
          go_loopw [7, 8] (fun v7 v8 wr => ∃ (E E0 D D0 : List Nat), v7 = .int .i64 (E.length : Int) ∧ v8 = .int .i64 ((E.length + b2 : Nat) : Int) ∧ E.length + D.length + Y.length = N ∧ Hid (X = E0 ++ (D0 ++ Y) ∧ Full key b2 E E0 ∧ Full key bs D D0) ∧ Hid (RowS enc 3 tail blk (E ++ (D ++ Z)) wr) ∧ Hid (R.Keeps [blk] w wr)) (fun v7 _ _ => N - (intOf v7).toNat)
          case atStart => exact ⟨[], [], D, D0, rfl, by simp, by simpa using hNY, Lib.hid ⟨HXE.out.1, Full.nil, HXE.out.2⟩, HR, HK⟩
          case round =>
            rename World => wr
            obtain ⟨E, E0, D, D0, rfl, rfl, hDR, HD, HRr, HKr⟩ := hrel
            obtain ⟨a, ha⟩ : ∃ a, E.length = a := ⟨_, rfl⟩
            obtain ⟨b, hb⟩ : ∃ b, a + b2 = b := ⟨_, rfl⟩
            obtain ⟨m1, hm1⟩ : ∃ m1, a + bs = m1 := ⟨_, rfl⟩
            rw [ha] at hDR
            rw [ha, hb]
            have em : (a : Int) + (bs : Int) = (m1 : Int) := by omega
            have wm := wr_small (x := m1) (by omega)
            have HA := Lib.hid ha
            clear ha
            have hYl : Z.length = Y.length := HZ.out.1.length_eq
            have HYL := Lib.hid hYl
            clear hYl
            by_cases hle : b ≤ N
            · have hle' : (b : Int) ≤ (N : Int) := by omega
              rcases HD.out.2.2.mult with ⟨h1, _⟩ | ⟨Z1, X1, D1, D10, hD1, hD10, hp1, hs1, hl1, hF1⟩
              · exfalso; rw [h1] at hDR; simp at hDR; omega
              rcases hF1.mult with ⟨h1, _⟩ | ⟨Z2, X2, D2, D20, hD2, hD20, hp2, hs2, hl2, hF2⟩
              · exfalso; rw [hD1, h1] at hDR; have := hp1.length_eq; simp at hDR; omega
              subst hD1 hD2 hD10 hD20
              have hz1 : Z1.length = bs := by rw [hp1.length_eq]; exact hl1
              have hz2 : Z2.length = bs := by rw [hp2.length_eq]; exact hl2
              obtain ⟨b3, hb3⟩ : ∃ b3, b + b2 = b3 := ⟨_, rfl⟩
              have e4 : (b : Int) + (b2 : Int) = (b3 : Int) := by omega
              have w4 := wr_small (x := b3) (by omega)
              have hall : ∀ x, x ∈ X1 ++ X2 → x < n := fun x hx => HXN.out x (by rw [HD.out.1]; simp only [List.mem_append] at hx ⊢; rcases hx with h | h <;> simp [h])
              have hord : ∀ x, x ∈ X1 → ∀ y, y ∈ X2 → x < y := fun x hx y hy => by
                have h1 := HX.out
                rw [HD.out.1, List.append_assoc, List.append_assoc] at h1
                exact (List.pairwise_append.1 (List.pairwise_append.1 h1).2.1).2.2 x hx y (by simp [hy])
              have hcall := symMerge_c henc EG.out HC.out (cap := cap) N (by omega) (Z1.length + Z2.length) E Z1 Z2 (D2 ++ Z) _ _ _ _ wr (by simp) (Nat.le_refl _) (HK0.out.trans HKr.out (fun k hk _ => hk)) HRr.out (by have := HA.out; have := HYL.out; simp at hDR ⊢; omega) rfl rfl rfl (by omega) (by omega) hs1 hs2 (fun x hx y hy => hord x (hp1.subset hx) y (hp2.subset hy)) (fun x hx => hall x (List.mem_append_left _ (hp1.subset hx))) (fun y hy => hall y (List.mem_append_right _ (hp2.subset hy)))
              rw [HA.out, hz1, hz2, show a + bs + bs = b by omega, hm1] at hcall
              have HCALL := Lib.hid hcall
              have HPP := Lib.hid (And.intro hp1 (And.intro hp2 (And.intro hl1 (And.intro hl2 hF2))))
              clear hcall hall hord hp1 hp2 hs1 hs2 hF1 hF2 hl1 hl2
              have HZZ := Lib.hid (And.intro hz1 hz2)
              clear hz1 hz2
              go_wp2_with fail
              refine HCALL.out.mono ?_
              rintro e w4 ⟨rfl, W, hz1, hz2, hz3, hz4⟩
              have HW := Lib.hid (And.intro hz1 hz2)
              have HK5 := Lib.hid (HKr.out.trans hz3 (fun k hk _ => hk))
              have HR5 := Lib.hid hz4
              clear hz1 hz2 hz3 hz4
              go_wp2_with fail
              have hwl : W.length = b2 := by rw [HW.out.1.length_eq]; simp [HZZ.out]; omega
              refine ⟨⟨E ++ W, E0 ++ (X1 ++ X2), D2, D20, by rw [List.length_append, HA.out, hwl, hb], by rw [List.length_append, HA.out, hwl, hb, hb3], by rw [List.length_append, HA.out, hwl]; have := HZZ.out; simp at hDR; omega, Lib.hid ⟨by rw [HD.out.1]; simp, HD.out.2.1.snoc (HW.out.1.trans (HPP.out.1.append HPP.out.2.1)) HW.out.2 (by simp [HPP.out.2.2.1, HPP.out.2.2.2.1]; omega), HPP.out.2.2.2.2⟩, Lib.hid (by have := HR5.out; simpa using this), HK5⟩, by simp [intOf]; omega⟩
            · have hle' : ¬ (b : Int) ≤ (N : Int) := by omega
              by_cases hmN : m1 < N
              · have hmN' : (m1 : Int) < (N : Int) := by omega
                rcases HD.out.2.2.mult with ⟨h1, _⟩ | ⟨Z1, X1, D1, D10, hD1, hD10, hp1, hs1, hl1, hF1⟩
                · exfalso; rw [h1] at hDR; simp at hDR; omega
                have hz1 : Z1.length = bs := by rw [hp1.length_eq]; exact hl1
                rcases hF1.mult with ⟨h1, h2⟩ | ⟨Z2, X2, D2, D20, hD2, hD20, hp2, hs2, hl2, hF2⟩
                rotate_left
                · exfalso; rw [hD1, hD2] at hDR; have := hp2.length_eq; simp at hDR; omega
                subst h1 h2 hD1 hD10
                simp only [List.append_nil] at HD HRr hDR
                have hall : ∀ x, x ∈ X1 ++ Y → x < n := fun x hx => HXN.out x (by rw [HD.out.1]; simp only [List.mem_append] at hx ⊢; rcases hx with h | h <;> simp [h])
                have hord : ∀ x, x ∈ X1 → ∀ y, y ∈ Y → x < y := fun x hx y hy => by
                  have h1 := HX.out
                  rw [HD.out.1] at h1
                  exact (List.pairwise_append.1 (List.pairwise_append.1 h1).2.1).2.2 x hx y hy
                have hzl := HYL.out
                have hcall := symMerge_c henc EG.out HC.out (cap := cap) N (by omega) (Z1.length + Z.length) E Z1 Z [] _ _ _ _ wr (by simp) (Nat.le_refl _) (HK0.out.trans HKr.out (fun k hk _ => hk)) HRr.out (by have := HA.out; simp; omega) rfl rfl rfl (by omega) (by omega) hs1 HZ.out.2 (fun x hx y hy => hord x (hp1.subset hx) y (HZ.out.1.subset hy)) (fun x hx => hall x (List.mem_append_left _ (hp1.subset hx))) (fun y hy => hall y (List.mem_append_right _ (HZ.out.1.subset hy)))
                rw [HA.out, hz1, show a + bs + Z.length = N by omega, hm1] at hcall
                have HCALL := Lib.hid hcall
                have HPP := Lib.hid (And.intro hp1 hl1)
                clear hcall hall hord hp1 hs1 hF1 hl1
                have HZZ := Lib.hid hz1
                clear hz1 hzl
                go_wp2_with fail
                refine HCALL.out.mono ?_
                rintro e w4 ⟨rfl, W, hz1, hz2, hz3, hz4⟩
                have HB1 : Hid (Blk key b2 (E ++ W) X) := Lib.hid ⟨E, E0, W, X1 ++ Y, rfl, HD.out.1, HD.out.2.1, hz1.trans (HPP.out.1.append HZ.out.1), hz2, by have := HPP.out.2; simp; omega⟩
                have HK5 := Lib.hid (HKr.out.trans hz3 (fun k hk _ => hk))
                have HR5 : Hid (RowS enc 3 tail blk (E ++ W) _) := Lib.hid (by simpa using hz4)
                clear hz1 hz2 hz3 hz4
                go_wp2_with fail
                exact ⟨⟨b2, E ++ W, rfl, by omega, by omega, HB1, HR5, HK5⟩, by simp [intOf]; omega⟩
              · have hmN' : ¬ (m1 : Int) < (N : Int) := by omega
                have HB1 : Hid (Blk key b2 (E ++ (D ++ Z)) X) := by
                  refine Lib.hid ⟨E, E0, D ++ Z, D0 ++ Y, rfl, HD.out.1, HD.out.2.1, HD.out.2.2.perm.append HZ.out.1, ?_, ?_⟩
                  · rcases HD.out.2.2.mult with ⟨h1, _⟩ | ⟨Z1, X1, D1, D10, hD1, hD10, hp1, hs1, hl1, hF1⟩
                    · rw [h1]; exact HZ.out.2
                    · have hz1 : Z1.length = bs := by rw [hp1.length_eq]; exact hl1
                      have h3 := HYL.out
                      rw [hD1] at hDR
                      simp at hDR
                      have e5 : D1 = [] := List.eq_nil_of_length_eq_zero (by omega)
                      have e6 : Z = [] := List.eq_nil_of_length_eq_zero (by omega)
                      rw [hD1, e5, e6]
                      simpa using hs1
                  · have := HD.out.2.2.perm.length_eq
                    simp
                    omega
                go_wp2_with fail
                exact ⟨⟨b2, _, rfl, by omega, by omega, HB1, HRr, HKr⟩, by simp [intOf]; omega⟩
        · have hlt' : ¬ (bs : Int) < (N : Int) := by omega
          go_wp2_with fail
          go_end0
          have := HB.out.done (by rw [HN.out]; omega)
          exact ⟨rfl, L, this.1, this.2, HK.out, HR.out⟩
end Go.Proofs.Ytcpojohpmcnnhaa.A

set_option linter.unusedVariables false
set_option linter.unusedSimpArgs false
namespace Go.Proofs.Ytcpojohpmcnnhaa.A
open Go.RowKit Go.Proofs.YtcpojohpmcnnhaaW.PrintWords Go.Proofs.YtcpojohpmcnnhaaW.PrintLast Go.Proofs.YtcpojohpmcnnhaaW.PrintMore
open Go.Proofs.Ytcpojohpmcnnhaa.PA
def insL (key : Nat → Int) (x : Nat) : List Nat → List Nat
  | [] => [x]
  | y :: l => if key x < key y ∨ (key x = key y ∧ x < y) then x :: y :: l else y :: insL key x l
def ordL (key : Nat → Int) (n : Nat) : List Nat := (List.range n).foldr (insL key) []
theorem insL_perm (key : Nat → Int) (x : Nat) : ∀ l, (insL key x l).Perm (x :: l)
  | [] => List.Perm.refl _
  | y :: l => by
    unfold insL
    split
    · exact List.Perm.refl _
    · exact ((List.perm_cons y).2 (insL_perm key x l)).trans (List.Perm.swap x y l)
theorem insL_srt {key : Nat → Int} {x : Nat} : ∀ {l}, Srt key l → x ∉ l → Srt key (insL key x l)
  | [], _, _ => List.pairwise_singleton _ _
  | y :: l, h, hx => by
    have h1 := List.pairwise_cons.1 h
    simp only [List.mem_cons, not_or] at hx
    unfold insL
    split
    · rename_i hc
      refine List.pairwise_cons.2 ⟨fun z hz => ?_, h⟩
      rcases List.mem_cons.1 hz with rfl | hz
      · exact hc
      · exact lx.trans hc (h1.1 z hz)
    · rename_i hc
      refine List.pairwise_cons.2 ⟨fun z hz => ?_, insL_srt h1.2 hx.2⟩
      rcases List.mem_cons.1 ((insL_perm key x l).subset hz) with rfl | hz
      · exact lx.not hc (fun e => hx.1 e.symm)
      · exact h1.1 z hz
theorem fold_ins (key : Nat → Int) : ∀ l : List Nat, l.Nodup → (l.foldr (insL key) []).Perm l ∧ Srt key (l.foldr (insL key) [])
  | [], _ => ⟨List.Perm.refl _, Srt.nil⟩
  | x :: l, h => by
    have h1 := List.nodup_cons.1 h
    obtain ⟨i1, i2⟩ := fold_ins key l h1.2
    refine ⟨(insL_perm key x _).trans ((List.perm_cons x).2 i1), insL_srt i2 (fun hx => h1.1 (i1.subset hx))⟩
theorem ordL_perm (key : Nat → Int) (n : Nat) : (ordL key n).Perm (List.range n) := (fold_ins key _ List.nodup_range).1
theorem ordL_srt (key : Nat → Int) (n : Nat) : Srt key (ordL key n) := (fold_ins key _ List.nodup_range).2
theorem ordL_unique {key : Nat → Int} {n : Nat} {Z : List Nat} (h1 : Z.Perm (List.range n)) (h2 : Srt key Z) : Z = ordL key n :=
  srt_unique h2 (ordL_srt key n) (h1.trans (ordL_perm key n).symm)
set_option maxHeartbeats 8000000 in
set_option maxRecDepth 100000 in
theorem sortStable_c {key : Nat → Int} {enc : Nat → Value} (henc : ∀ x, ∃ v, enc x = .int .i64 v) {tail : List Value} {blk cap g : Nat} {cb : Array Value} {w0 : World} (N : Nat) (eg : Enters g) (hC : CmpS key enc N blk g cb w0)
    (w : World) (hK0 : R.Keeps [blk] w0 w) (h : RowS enc 3 tail blk (List.range N) w) (hn : N < 500000) :
    Calls Try.prog 89 #[.slice (some ⟨blk, 0, none⟩) N cap, .func (.func g) #[] cb] w fun e w' => e = .returned (.tuple #[]) ∧ R.Keeps [blk] w w' ∧ RowS enc 3 tail blk (ordL key N) w' := by
  have e95 : ∀ args w, (callFunc 95 args).run Try.prog w = .ok (.enter 95 args) w := enters_mk Try.func95 (by kernel_rfl) rfl
  have HCALL := Lib.hid (stable_c henc eg hC (cap := cap) (List.range N) N w hK0 h (by simp) hn (List.pairwise_lt_range) (fun x hx => List.mem_range.1 hx))
  clear h hK0 hC eg
  go_enter Try.func89, Try.ntmps89
  go_wp2_with fail
  refine HCALL.out.mono ?_
  rintro e w4 ⟨rfl, Z, hz1, hz2, hz3, hz4⟩
  rw [ordL_unique hz1 hz2] at hz4
  have HK4 := Lib.hid hz3
  have HR4 := Lib.hid hz4
  clear hz1 hz2 hz3 hz4
  go_wp2_with fail
  go_end0
  exact ⟨rfl, HK4.out, HR4.out⟩
end Go.Proofs.Ytcpojohpmcnnhaa.A

set_option linter.unusedVariables false
set_option linter.unusedSimpArgs false
namespace Go.Proofs.Ytcpojohpmcnnhaa.A
open Go.RowKit Go.Proofs.YtcpojohpmcnnhaaW.PrintWords Go.Proofs.YtcpojohpmcnnhaaW.PrintLast Go.Proofs.YtcpojohpmcnnhaaW.PrintMore
open Go.Proofs.Ytcpojohpmcnnhaa.PA
def keyI (l : List Int) (i : Nat) : Int := l.getD i 0
theorem compare_neg (x y : Int) : Lib.compareInt x y < 0 ↔ x < y := by
  unfold Lib.compareInt
  split
  · simp_all
  · split <;> simp_all
theorem enters73 : Enters 73 := enters_mk Try.func73 (by kernel_rfl) rfl
set_option maxHeartbeats 4000000 in
set_option maxRecDepth 100000 in
theorem cmp73 (l : List Int) (A : Option Addr) (c B x y : Nat) (w W : World) (hr : Kd.C (Kd.int .i64) w A l.length l) (hb : Below w.heap.size w W) (hbox : W.cell? ⟨B, 0, none⟩ = some (.slice A l.length c)) (hx : x < l.length) (hy : y < l.length) (hl : l.length ≤ 1000000) :
    Calls Try.prog 73 #[.int .i64 (x : Int), .int .i64 (y : Int), .pointer (some ⟨B, 0, none⟩)] W fun e w' => e = .returned (.int .i64 (Lib.compareInt (keyI l x) (keyI l y))) ∧ Below W.heap.size W w' := by
  have CEL : Hid (∀ W', R.Keeps [] W W' → ∃ ad, A = some ad ∧ W'.cell? ⟨B, 0, none⟩ = some (.slice A l.length c) ∧ W'.cell? (ad.add x) = some (.int .i64 (keyI l x)) ∧ W'.cell? (ad.add y) = some (.int .i64 (keyI l y))) := Lib.hid (fun W' hW => by
    obtain ⟨ad, vx, e1, e2, e3⟩ := at_int hr (hb.trans (hW.to_below (B := w.heap.size) hb.size (fun k hk => by simp at hk))) x hx
    obtain ⟨ad', vy, e1', e2', e3'⟩ := at_int hr (hb.trans (hW.to_below (B := w.heap.size) hb.size (fun k hk => by simp at hk))) y hy
    obtain rfl : ad = ad' := Option.some.inj (e1.symm.trans e1')
    have k1 : keyI l x = vx := by unfold keyI; rw [List.getD_eq_getElem?_getD, e2.out]; rfl
    have k2 : keyI l y = vy := by unfold keyI; rw [List.getD_eq_getElem?_getD, e2'.out]; rfl
    exact ⟨ad, e1, hW.cell hbox (by simp), by rw [k1]; exact e3, by rw [k2]; exact e3'⟩)
  obtain ⟨ad, rfl, _⟩ := CEL.out W (R.Keeps.refl _ _)
  obtain ⟨N, hN⟩ : ∃ N, l.length = N := ⟨_, rfl⟩
  obtain ⟨vx, hvx⟩ : ∃ vx, keyI l x = vx := ⟨_, rfl⟩
  obtain ⟨vy, hvy⟩ : ∃ vy, keyI l y = vy := ⟨_, rfl⟩
  rw [hvx, hvy] at CEL
  rw [hvx, hvy]
  rw [hN] at CEL hx hy hl
  clear hr hb hbox hvx hvy hN
  have x0 : (0 : Int) ≤ (x : Int) := by omega
  have y0 : (0 : Int) ≤ (y : Int) := by omega
  have x1 : (x : Int) < (N : Int) := by omega
  have y1 : (y : Int) < (N : Int) := by omega
  go_enter Try.func73, Try.ntmps73
  go_wp2_with fail
  apply R.wp_region_text [0, 1, 2, 3, 4, 5, 6, 7] [8, 9] 10 (R.Keeps [] W)
  case hm => kernel_rfl
  case hB => kernel_rfl
  case hd => rfl
  case hQ => exact fun _ _ _ _ _ h => h
  case hS => exact (R.Keeps.refl _ _).drew
  case hF =>
    intro w' hS
    obtain ⟨ad', h1, z0, z1, z2⟩ := CEL.out w' hS
    obtain rfl : ad = ad' := Option.some.inj h1
    clear hS h1
    simp only [R.pickC, List.filterMap_cons, List.getElem?_toArray, List.getElem?_cons_zero, List.getElem?_cons_succ, List.filterMap_nil]
    (with_reducible refine R.wpStill_plain rfl (fun K hK => ?_)); go_simp; with_reducible refine hK _ ?_; clear hK K
    (with_reducible refine R.wpStill_plain rfl (fun K hK => ?_)); go_simp; with_reducible refine hK _ ?_; clear hK K
    (with_reducible refine R.wpStill_plain rfl (fun K hK => ?_)); go_simp; with_reducible refine hK _ ?_; clear hK K
    (with_reducible refine R.wpStill_plain rfl (fun K hK => ?_)); go_simp; with_reducible refine hK _ ?_; clear hK K
    (with_reducible refine R.wpStill_plain rfl (fun K hK => ?_)); go_simp; with_reducible refine hK _ ?_; clear hK K
    (with_reducible refine R.wpStill_plain rfl (fun K hK => ?_)); go_simp; with_reducible refine hK _ ?_; clear hK K
    (with_reducible refine R.wpStill_plain rfl (fun K hK => ?_)); go_simp; with_reducible refine hK _ ?_; clear hK K
    (with_reducible refine R.wpStill_plain rfl (fun K hK => ?_)); go_simp; with_reducible refine hK _ ?_; clear hK K
    exact wpStill_nil rfl
  case hC =>
    simp only [R.chainOf, List.getElem?_toArray, List.getElem?_cons_zero, List.getElem?_cons_succ, Nat.reduceBNe, Bool.and_true, Bool.and_false, Bool.false_and]
    refine R.wpSeq_same (fun K hK => ?_)
    go_simp
    refine (cmp_Compare_int _ _ _).mono ?_
    rintro e w2 ⟨rfl, rfl⟩
    refine hK _ _ ((R.Keeps.refl _ _).drew) ?_
    clear hK K
    refine R.wpSeq_same (fun K hK => ?_)
    go_simp
    refine hK _ _ ((R.Keeps.refl _ _).drew) ?_
    clear hK K
    refine R.wpSeq_nil ?_
    go_wp2_with fail
    go_ret
    exact ⟨rfl, (Below.refl _ _).drew⟩
theorem cmpS73 (l : List Int) (A : Option Addr) (c B blk : Nat) (w w0 : World) (hr : Kd.C (Kd.int .i64) w A l.length l) (hB : B < w0.heap.size) (hblk : w.heap.size ≤ blk) (hne : B ≠ blk) (hb : Below w.heap.size w w0) (hbox : w0.cell? ⟨B, 0, none⟩ = some (.slice A l.length c)) (hl : l.length ≤ 1000000) :
    CmpS (keyI l) (fun i => .int .i64 (i : Int)) l.length blk 73 #[.pointer (some ⟨B, 0, none⟩)] w0 := by
  intro W hW x y hx hy
  refine (cmp73 l A c B x y w W hr (hb.trans (hW.to_below hb.size (fun k hk => by simp at hk; omega))) (hW.cell hbox (by simp; exact hne)) hx hy hl).mono ?_
  rintro e w' ⟨rfl, h⟩
  exact ⟨_, rfl, compare_neg _ _, h⟩
end Go.Proofs.Ytcpojohpmcnnhaa.A

set_option linter.unusedVariables false
set_option linter.unusedSimpArgs false
namespace Go.Proofs.Ytcpojohpmcnnhaa.A
open Go.RowKit Go.Proofs.YtcpojohpmcnnhaaW.PrintWords Go.Proofs.YtcpojohpmcnnhaaW.PrintLast Go.Proofs.YtcpojohpmcnnhaaW.PrintMore
open Go.Proofs.Ytcpojohpmcnnhaa.PA
abbrev encN (i : Nat) : Value := .int .i64 (i : Int)
theorem encN_int (x : Nat) : ∃ v, encN x = .int .i64 v := ⟨_, rfl⟩
theorem owns_row {w : World} {base N g cap : Nat} {L : List Nat} (hL : L.length = N) (h : w.ownsRow base 3 1 (.slice (some ⟨g, 0, none⟩) N cap) N (L.map encN)) : base ≤ g ∧ N ≤ cap ∧ cap ≤ maxLen ∧ ∃ tail : List Value, tail.length + N = cap ∧ RowS encN 3 tail g L w := by
  obtain ⟨h1, h2⟩ := h
  rcases h2 with ⟨h3, _⟩ | ⟨g', cap', cur, e, hb, hg, hn, hc, hs, ht⟩
  · cases h3
  · simp only [Value.slice.injEq, Option.some.injEq, Addr.mk.injEq, and_true, true_and] at e
    obtain ⟨rfl, rfl⟩ := e
    rw [Nat.mul_one] at ht hs
    refine ⟨hb, hn, hc, cur.toList.drop N, by simp; omega, ?_⟩
    unfold RowS
    rw [hg, ← ht, List.take_append_drop]
theorem row_owns {w : World} {base N g cap : Nat} {L : List Nat} {tail : List Value} (hL : L.length = N) (hb : base ≤ g) (hn : N ≤ cap) (hc : cap ≤ maxLen) (ht : tail.length + N = cap) (h : RowS encN 3 tail g L w) : w.ownsRow base 3 1 (.slice (some ⟨g, 0, none⟩) N cap) N (L.map encN) := by
  refine ⟨by simp [hL], .inr ⟨g, cap, _, rfl, hb, h, hn, hc, by simp [hL]; omega, ?_⟩⟩
  simp [hL]
theorem range_cell {n j : Nat} (hj : j < ((List.range n).map (Int.ofNat)).length) : ((List.range n).map (Int.ofNat)).getD j 0 = (j : Int) := by
  simp at hj
  simp [List.getD_eq_getElem?_getD, hj]
set_option maxHeartbeats 4000000 in
set_option maxRecDepth 100000 in
theorem sorted_c {key : Nat → Int} (N b cap g : Nat) (cb : Array Value) (w : World) (eg : Enters g) (h0 : 0 < N) (hN : N < 500000) (hcells : ∀ j, j < N → w.cell? ⟨b, j, none⟩ = some (encN j))
    (hC : ∀ blk w1, w.heap.size ≤ blk → Below w.heap.size w w1 → CmpS key encN N blk g cb w1) :
    Calls Try.prog 72 #[.slice (some ⟨b, 0, none⟩) N cap, .func (.func g) #[] cb] w fun e w' => ∃ blk cap', e = .returned (.slice (some ⟨blk, 0, none⟩) N cap') ∧ w'.ownsRow w.heap.size 3 1 (.slice (some ⟨blk, 0, none⟩) N cap') N ((ordL key N).map encN) ∧ Below w.heap.size w w' := by
  have e88 : ∀ args w, (callFunc 88 args).run Try.prog w = .ok (.enter 88 args) w := enters_mk Try.func88 (by kernel_rfl) rfl
  have e89 : ∀ args w, (callFunc 89 args).run Try.prog w = .ok (.enter 89 args) w := enters_mk Try.func89 (by kernel_rfl) rfl
  have hcl := slices_Clone_int b 0 N cap ((List.range N).map Int.ofNat) w (by simp) (by omega) (fun j hj => by
    rw [range_cell hj, Nat.zero_add]; exact hcells j (by simpa using hj))
  have HCL := Lib.hid hcl
  have HC := Lib.hid hC
  have EG := Lib.hid eg
  clear hcl hC hcells eg
  go_enter Try.func72, Try.ntmps72
  go_wp2_with fail
  refine HCL.out.mono ?_
  rintro e w1 ⟨v, rfl, ho, hne, hB⟩
  have ho' : w1.ownsRow w.heap.size 3 1 v N ((List.range N).map encN) := by
    have : (((List.range N).map Int.ofNat).take N).map (Value.int .i64) = (List.range N).map encN := by
      rw [List.take_of_length_le (by simp), List.map_map]; rfl
    rw [← this]; exact ho
  obtain ⟨blk, cap', rfl⟩ : ∃ blk cap', v = .slice (some ⟨blk, 0, none⟩) N cap' := by
    rcases ho'.2 with ⟨h3, _⟩ | ⟨g', cap', cur, e, _⟩
    · exact absurd h3 hne
    · exact ⟨g', cap', e⟩
  obtain ⟨hb, hn, hc, tail, ht, hrow⟩ := owns_row (L := List.range N) (by simp) ho'
  have HS := Lib.hid (sortStable_c encN_int (cap := cap') N EG.out (HC.out blk w1 hb hB) w1 (R.Keeps.refl _ _) hrow hN)
  have HB := Lib.hid hB
  have HF := Lib.hid (And.intro hb (And.intro hn (And.intro hc ht)))
  clear ho ho' hne hrow hB hb hn hc ht
  go_wp2_with fail
  refine HS.out.mono ?_
  rintro e w2 ⟨rfl, hk, hr⟩
  have HK := Lib.hid hk
  have HR := Lib.hid hr
  clear hk hr
  go_wp2_with fail
  go_ret
  refine ⟨blk, cap', rfl, row_owns (by rw [(ordL_perm key N).length_eq]; simp) HF.out.1 HF.out.2.1 HF.out.2.2.1 HF.out.2.2.2 HR.out, HB.out.trans (HK.out.to_below HB.out.size (fun k hk => by simp at hk; have := HF.out.1; omega))⟩
end Go.Proofs.Ytcpojohpmcnnhaa.A

set_option linter.unusedVariables false
set_option linter.unusedSimpArgs false
namespace Go.Proofs.Ytcpojohpmcnnhaa.A
open Go.RowKit Go.Proofs.YtcpojohpmcnnhaaW.PrintWords Go.Proofs.YtcpojohpmcnnhaaW.PrintLast Go.Proofs.YtcpojohpmcnnhaaW.PrintMore
open Go.Proofs.Ytcpojohpmcnnhaa.PA
set_option maxHeartbeats 2000000 in
set_option maxRecDepth 100000 in
theorem WriteString_c (B b : Nat) (bs : List Value) (s : ByteArray) (w : World) (h : Lib.IsBuilder 89 5 B b bs w) (hlen : bs.length + s.size ≤ 140737488355328) (hBw : B ≤ w.heap.size) :
    Calls Try.prog 67 #[.pointer (some ⟨b, 0, none⟩), .string s] w fun e w' => e = .returned (.tuple #[.int .i64 s.size, .nilIface]) ∧ (Lib.BuilderAt 89 5 B b (.pointer (some ⟨b, 0, none⟩)) (bs ++ Lib.strCells s) w' ∧ Below B w w') := by
  obtain ⟨i0, hi, hz0, hz1, hz2⟩ := info_parts infoU8
  go_enter Try.func67, Try.ntmps67
  go_wp2_with fail
  refine (copy_c B b bs _ h).mono ?_
  rintro e w1 ⟨rfl, h1, hb1, -⟩
  obtain ⟨hB, v, hbk, hown, hne⟩ := h1
  have c0 : w1.cell? ⟨b, 0, none⟩ = some (.pointer (some ⟨b, 0, none⟩)) := by rw [Lib.cell_of_heap hbk]; rfl
  have c1 : w1.cell? ⟨b, 1, none⟩ = some v := by rw [Lib.cell_of_heap hbk]; rfl
  go_wp2_with (at_builtin; refine Lib.wpList_append_own_string _ rfl _ _ 59 9 rfl B 5 i0 Try.underlying59 Try.underlying9 hi hz0 hz1 hz2 _ _ _ rfl hown s rfl ?c3 ?c4 ?c5 ?_)
  case c3 => unfold maxLen; omega
  case c4 => omega
  case c5 => have := hb1.size; omega
  intro v' w2 hown' hgrow _
  obtain ⟨hb2, hfin⟩ := builder_grown (w1 := w) (W := w1) (m := s.size) hB hbk hne hgrow hb1 hown (by have := hb1.size; omega) hown' (by simp [Lib.strCells_length])
  have d0 : w2.cell? ⟨b, 0, none⟩ = some (.pointer (some ⟨b, 0, none⟩)) := by rw [Lib.cell_of_heap hb2]; rfl
  have d1 : w2.cell? ⟨b, 1, none⟩ = some v := by rw [Lib.cell_of_heap hb2]; rfl
  have f1 : w2.frozen? ⟨b, 1, none⟩ = false := Lib.frozen_of_heap hb2 1
  obtain ⟨ao, n', cap, rfl⟩ : ∃ ao n' cap, v' = .slice ao n' cap := by
    rcases hown'.2 with ⟨hv, _⟩ | ⟨g, cap, cur, hv, _⟩
    · exact ⟨_, _, _, hv⟩
    · exact ⟨_, _, _, hv⟩
  have HF := Lib.hid hfin
  clear hfin
  go_wp2
  go_ret2
  exact ⟨rfl, HF.out _ rfl⟩
end Go.Proofs.Ytcpojohpmcnnhaa.A

set_option linter.unusedVariables false
set_option linter.unusedSimpArgs false
namespace Go.Proofs.Ytcpojohpmcnnhaa.A
open Go.RowKit Go.Proofs.YtcpojohpmcnnhaaW.PrintWords Go.Proofs.YtcpojohpmcnnhaaW.PrintLast Go.Proofs.YtcpojohpmcnnhaaW.PrintMore
open Go.Proofs.Ytcpojohpmcnnhaa.PA
def digI (n : Int) (i : Nat) : Int := n / 2 ^ i % 2
def dig8 (n : Int) (i : Nat) : UInt8 := UInt8.ofNat (48 + (digI n i).toNat)
def digs (n : Int) (d k : Nat) : List UInt8 := (List.range (d - k)).map (fun j => dig8 n (d - 1 - j))
theorem wraps_i64 (n : Int) (h0 : 0 ≤ n) (h1 : n < 2 ^ 63) : IntKind.i64.wrap n = n := by rw [IntKind.wrap_i64]; omega
theorem and1 {x : Int} (h0 : 0 ≤ x) (h : x < 9223372036854775808) : bits BinOp.and IntKind.i64 x 1 = x % 2 := bits_mask .i64 63 (by decide) wraps_i64 1 (by decide) x h0 (by omega)
theorem digI_01 (n : Int) (i : Nat) : digI n i = 0 ∨ digI n i = 1 := by unfold digI; omega
theorem dig8_nat (n : Int) (i : Nat) : ((dig8 n i).toNat : Int) = 48 + digI n i := by
  unfold dig8
  rcases digI_01 n i with h | h <;> rw [h] <;> rfl
theorem shr_bd {n : Int} (q : Nat) (h0 : 0 ≤ n) (hn : n ≤ 8589934592) : 0 ≤ n / 2 ^ q ∧ n / 2 ^ q ≤ 8589934592 := by
  have hp : (0 : Int) < 2 ^ q := Int.pow_pos (by omega)
  exact ⟨Int.ediv_nonneg h0 (Int.le_of_lt hp), Int.le_trans (Int.ediv_le_self _ h0) hn⟩
theorem bin_arg {n : Int} (q : Nat) (h0 : 0 ≤ n) (hn : n ≤ 8589934592) : wrap64 (48 + bits BinOp.and IntKind.i64 (n / 2 ^ q) 1) % 256 = ((dig8 n q).toNat : Int) := by
  have h := shr_bd q h0 hn
  rw [and1 h.1 (by omega), dig8_nat]
  rcases digI_01 n q with e | e <;> unfold digI at e ⊢ <;> rw [e] <;> simp [wrap64]
theorem digs_snoc (n : Int) {d q : Nat} (h : q + 1 ≤ d) : digs n d q = digs n d (q + 1) ++ [dig8 n q] := by
  unfold digs
  rw [show d - q = (d - (q + 1)) + 1 by omega, List.range_succ, List.map_append]
  congr 1
  simp only [List.map_cons, List.map_nil]
  congr 2
  omega
theorem byteCells_snoc (l : List UInt8) (c : UInt8) : Lib.byteCells (l ++ [c]) = Lib.byteCells l ++ [.int .u8 (c.toNat : Int)] := by simp [Lib.byteCells]
theorem byteCells_len (l : List UInt8) : (Lib.byteCells l).length = l.length := by simp [Lib.byteCells]
theorem digs_len (n : Int) (d k : Nat) : (digs n d k).length = d - k := by simp [digs]
set_option maxHeartbeats 2000000 in
set_option maxRecDepth 100000 in
theorem binary_c (n : Int) (d : Nat) (w : World) (h0 : 0 ≤ n) (hn : n ≤ 8589934592) (hd : d ≤ 64) :
    Calls Try.prog 75 #[.int .i64 n, .int .i64 (d : Int)] w fun e w' => e = .returned (.string ⟨(digs n d 0).toArray⟩) ∧ Below w.heap.size w w' := by
  have hB1 : Below w.heap.size w (w.alloc (Obj.cells #[Value.pointer none, Value.slice none 0 0] 89)) := (Below.refl _ _).alloc (Nat.le_refl _) _
  have hI : Lib.IsBuilder 89 5 w.heap.size w.heap.size (Lib.byteCells (digs n d d)) (w.alloc (Obj.cells #[Value.pointer none, Value.slice none 0 0] 89)) := by
    refine .inl ⟨Nat.le_refl _, .slice none 0 0, heap_alloc_new _ _, ?_, by simp [Value.ownBlock]⟩
    refine ⟨by simp, .inl ⟨rfl, by simp [digs, Lib.byteCells]⟩⟩
  have HI := Lib.hid hI
  have HB1 := Lib.hid hB1
  clear hI hB1
  go_enter Try.func75, Try.ntmps75
  go_wp2_with fail
  go_loopw [6] (fun i wr => ∃ k : Nat, i = .int .i64 ((k : Int) - 1) ∧ k ≤ d ∧ Hid (Lib.IsBuilder 89 5 w.heap.size w.heap.size (Lib.byteCells (digs n d k)) wr) ∧ Hid (Below w.heap.size w wr)) (fun i _ => ((intOf i) + 1).toNat)
  case atStart => exact ⟨d, rfl, Nat.le_refl _, HI, HB1⟩
  case round =>
    obtain ⟨k, rfl, hk, HIk, HBk⟩ := hrel
    by_cases hlt : 1 ≤ k
    · obtain ⟨q, rfl⟩ : ∃ q, k = q + 1 := ⟨k - 1, by omega⟩
      have HA := Lib.hid (bin_arg q h0 hn)
      go_wp2_with fail
      rw [HA.out]
      refine (WriteByte_c _ _ _ _ _ HIk.out (by rw [byteCells_len, digs_len]; omega) HBk.out.size).mono ?_
      rintro e w2 ⟨rfl, hI2, hB2⟩
      have HI2 : Hid (Lib.IsBuilder 89 5 w.heap.size w.heap.size (Lib.byteCells (digs n d q)) w2) := by
        rw [digs_snoc n hk, byteCells_snoc]
        exact Lib.hid (.inr hI2)
      have HB2 := Lib.hid (HBk.out.trans hB2)
      clear hI2 hB2 HA
      go_wp2_with fail
      go_roundw
      case rel => exact ⟨q, by first | rfl | go_num, by omega, HI2, HB2⟩
      case measure => simp [intOf]
    · obtain rfl : k = 0 := by omega
      go_wp2_with fail
      refine (Builder_String_any _ _ _ _ HIk.out HBk.out.size).mono ?_
      rintro e w2 ⟨rfl, hB2⟩
      go_wp2_with fail
      go_ret
      exact ⟨rfl, HBk.out.trans hB2⟩
end Go.Proofs.Ytcpojohpmcnnhaa.A

namespace Go.Proofs.Ytcpojohpmcnnhaa.PA
open Go.RowKit Go.Proofs.YtcpojohpmcnnhaaW.PrintWords Go.Proofs.YtcpojohpmcnnhaaW.PrintLast Go.Proofs.YtcpojohpmcnnhaaW.PrintMore
attribute [local go_sem] max2_int min2_int max_two min_two max_three min_three max_four min_four
set_option linter.unusedVariables false
set_option linter.unusedSimpArgs false
def bits_OnesCount64.f (a0 : Int) : Option (Int) := some (Go.bits .and .i64 (wrap64 (IntKind.u64.wrap ((IntKind.u64.wrap ((IntKind.u64.wrap ((Go.bits .and .u64 (IntKind.u64.wrap (((IntKind.u64.wrap ((Go.bits .and .u64 ((IntKind.u64.wrap ((Go.bits .and .u64 (a0 / 2) 6148914691236517205) + (Go.bits .and .u64 a0 6148914691236517205))) / 4) 3689348814741910323) + (Go.bits .and .u64 (IntKind.u64.wrap ((Go.bits .and .u64 (a0 / 2) 6148914691236517205) + (Go.bits .and .u64 a0 6148914691236517205))) 3689348814741910323))) / 16) + (IntKind.u64.wrap ((Go.bits .and .u64 ((IntKind.u64.wrap ((Go.bits .and .u64 (a0 / 2) 6148914691236517205) + (Go.bits .and .u64 a0 6148914691236517205))) / 4) 3689348814741910323) + (Go.bits .and .u64 (IntKind.u64.wrap ((Go.bits .and .u64 (a0 / 2) 6148914691236517205) + (Go.bits .and .u64 a0 6148914691236517205))) 3689348814741910323))))) 1085102592571150095) + ((Go.bits .and .u64 (IntKind.u64.wrap (((IntKind.u64.wrap ((Go.bits .and .u64 ((IntKind.u64.wrap ((Go.bits .and .u64 (a0 / 2) 6148914691236517205) + (Go.bits .and .u64 a0 6148914691236517205))) / 4) 3689348814741910323) + (Go.bits .and .u64 (IntKind.u64.wrap ((Go.bits .and .u64 (a0 / 2) 6148914691236517205) + (Go.bits .and .u64 a0 6148914691236517205))) 3689348814741910323))) / 16) + (IntKind.u64.wrap ((Go.bits .and .u64 ((IntKind.u64.wrap ((Go.bits .and .u64 (a0 / 2) 6148914691236517205) + (Go.bits .and .u64 a0 6148914691236517205))) / 4) 3689348814741910323) + (Go.bits .and .u64 (IntKind.u64.wrap ((Go.bits .and .u64 (a0 / 2) 6148914691236517205) + (Go.bits .and .u64 a0 6148914691236517205))) 3689348814741910323))))) 1085102592571150095) / 256))) + ((IntKind.u64.wrap ((Go.bits .and .u64 (IntKind.u64.wrap (((IntKind.u64.wrap ((Go.bits .and .u64 ((IntKind.u64.wrap ((Go.bits .and .u64 (a0 / 2) 6148914691236517205) + (Go.bits .and .u64 a0 6148914691236517205))) / 4) 3689348814741910323) + (Go.bits .and .u64 (IntKind.u64.wrap ((Go.bits .and .u64 (a0 / 2) 6148914691236517205) + (Go.bits .and .u64 a0 6148914691236517205))) 3689348814741910323))) / 16) + (IntKind.u64.wrap ((Go.bits .and .u64 ((IntKind.u64.wrap ((Go.bits .and .u64 (a0 / 2) 6148914691236517205) + (Go.bits .and .u64 a0 6148914691236517205))) / 4) 3689348814741910323) + (Go.bits .and .u64 (IntKind.u64.wrap ((Go.bits .and .u64 (a0 / 2) 6148914691236517205) + (Go.bits .and .u64 a0 6148914691236517205))) 3689348814741910323))))) 1085102592571150095) + ((Go.bits .and .u64 (IntKind.u64.wrap (((IntKind.u64.wrap ((Go.bits .and .u64 ((IntKind.u64.wrap ((Go.bits .and .u64 (a0 / 2) 6148914691236517205) + (Go.bits .and .u64 a0 6148914691236517205))) / 4) 3689348814741910323) + (Go.bits .and .u64 (IntKind.u64.wrap ((Go.bits .and .u64 (a0 / 2) 6148914691236517205) + (Go.bits .and .u64 a0 6148914691236517205))) 3689348814741910323))) / 16) + (IntKind.u64.wrap ((Go.bits .and .u64 ((IntKind.u64.wrap ((Go.bits .and .u64 (a0 / 2) 6148914691236517205) + (Go.bits .and .u64 a0 6148914691236517205))) / 4) 3689348814741910323) + (Go.bits .and .u64 (IntKind.u64.wrap ((Go.bits .and .u64 (a0 / 2) 6148914691236517205) + (Go.bits .and .u64 a0 6148914691236517205))) 3689348814741910323))))) 1085102592571150095) / 256))) / 65536))) + ((IntKind.u64.wrap ((IntKind.u64.wrap ((Go.bits .and .u64 (IntKind.u64.wrap (((IntKind.u64.wrap ((Go.bits .and .u64 ((IntKind.u64.wrap ((Go.bits .and .u64 (a0 / 2) 6148914691236517205) + (Go.bits .and .u64 a0 6148914691236517205))) / 4) 3689348814741910323) + (Go.bits .and .u64 (IntKind.u64.wrap ((Go.bits .and .u64 (a0 / 2) 6148914691236517205) + (Go.bits .and .u64 a0 6148914691236517205))) 3689348814741910323))) / 16) + (IntKind.u64.wrap ((Go.bits .and .u64 ((IntKind.u64.wrap ((Go.bits .and .u64 (a0 / 2) 6148914691236517205) + (Go.bits .and .u64 a0 6148914691236517205))) / 4) 3689348814741910323) + (Go.bits .and .u64 (IntKind.u64.wrap ((Go.bits .and .u64 (a0 / 2) 6148914691236517205) + (Go.bits .and .u64 a0 6148914691236517205))) 3689348814741910323))))) 1085102592571150095) + ((Go.bits .and .u64 (IntKind.u64.wrap (((IntKind.u64.wrap ((Go.bits .and .u64 ((IntKind.u64.wrap ((Go.bits .and .u64 (a0 / 2) 6148914691236517205) + (Go.bits .and .u64 a0 6148914691236517205))) / 4) 3689348814741910323) + (Go.bits .and .u64 (IntKind.u64.wrap ((Go.bits .and .u64 (a0 / 2) 6148914691236517205) + (Go.bits .and .u64 a0 6148914691236517205))) 3689348814741910323))) / 16) + (IntKind.u64.wrap ((Go.bits .and .u64 ((IntKind.u64.wrap ((Go.bits .and .u64 (a0 / 2) 6148914691236517205) + (Go.bits .and .u64 a0 6148914691236517205))) / 4) 3689348814741910323) + (Go.bits .and .u64 (IntKind.u64.wrap ((Go.bits .and .u64 (a0 / 2) 6148914691236517205) + (Go.bits .and .u64 a0 6148914691236517205))) 3689348814741910323))))) 1085102592571150095) / 256))) + ((IntKind.u64.wrap ((Go.bits .and .u64 (IntKind.u64.wrap (((IntKind.u64.wrap ((Go.bits .and .u64 ((IntKind.u64.wrap ((Go.bits .and .u64 (a0 / 2) 6148914691236517205) + (Go.bits .and .u64 a0 6148914691236517205))) / 4) 3689348814741910323) + (Go.bits .and .u64 (IntKind.u64.wrap ((Go.bits .and .u64 (a0 / 2) 6148914691236517205) + (Go.bits .and .u64 a0 6148914691236517205))) 3689348814741910323))) / 16) + (IntKind.u64.wrap ((Go.bits .and .u64 ((IntKind.u64.wrap ((Go.bits .and .u64 (a0 / 2) 6148914691236517205) + (Go.bits .and .u64 a0 6148914691236517205))) / 4) 3689348814741910323) + (Go.bits .and .u64 (IntKind.u64.wrap ((Go.bits .and .u64 (a0 / 2) 6148914691236517205) + (Go.bits .and .u64 a0 6148914691236517205))) 3689348814741910323))))) 1085102592571150095) + ((Go.bits .and .u64 (IntKind.u64.wrap (((IntKind.u64.wrap ((Go.bits .and .u64 ((IntKind.u64.wrap ((Go.bits .and .u64 (a0 / 2) 6148914691236517205) + (Go.bits .and .u64 a0 6148914691236517205))) / 4) 3689348814741910323) + (Go.bits .and .u64 (IntKind.u64.wrap ((Go.bits .and .u64 (a0 / 2) 6148914691236517205) + (Go.bits .and .u64 a0 6148914691236517205))) 3689348814741910323))) / 16) + (IntKind.u64.wrap ((Go.bits .and .u64 ((IntKind.u64.wrap ((Go.bits .and .u64 (a0 / 2) 6148914691236517205) + (Go.bits .and .u64 a0 6148914691236517205))) / 4) 3689348814741910323) + (Go.bits .and .u64 (IntKind.u64.wrap ((Go.bits .and .u64 (a0 / 2) 6148914691236517205) + (Go.bits .and .u64 a0 6148914691236517205))) 3689348814741910323))))) 1085102592571150095) / 256))) / 65536))) / 4294967296)))) 127)
set_option maxHeartbeats 8000000 in
set_option maxRecDepth 100000 in
theorem bits_OnesCount64.calls (a0 : Int) (r : Int) (w : World) (h : bits_OnesCount64.f a0 = some r) :
  Calls Try.prog 102 #[.int .u64 a0] w fun e w' => e = .returned (.int .i64 r) ∧ Drawn0 w w' := by
 have H : (some (Go.bits .and .i64 (wrap64 (IntKind.u64.wrap ((IntKind.u64.wrap ((IntKind.u64.wrap ((Go.bits .and .u64 (IntKind.u64.wrap (((IntKind.u64.wrap ((Go.bits .and .u64 ((IntKind.u64.wrap ((Go.bits .and .u64 (a0 / 2) 6148914691236517205) + (Go.bits .and .u64 a0 6148914691236517205))) / 4) 3689348814741910323) + (Go.bits .and .u64 (IntKind.u64.wrap ((Go.bits .and .u64 (a0 / 2) 6148914691236517205) + (Go.bits .and .u64 a0 6148914691236517205))) 3689348814741910323))) / 16) + (IntKind.u64.wrap ((Go.bits .and .u64 ((IntKind.u64.wrap ((Go.bits .and .u64 (a0 / 2) 6148914691236517205) + (Go.bits .and .u64 a0 6148914691236517205))) / 4) 3689348814741910323) + (Go.bits .and .u64 (IntKind.u64.wrap ((Go.bits .and .u64 (a0 / 2) 6148914691236517205) + (Go.bits .and .u64 a0 6148914691236517205))) 3689348814741910323))))) 1085102592571150095) + ((Go.bits .and .u64 (IntKind.u64.wrap (((IntKind.u64.wrap ((Go.bits .and .u64 ((IntKind.u64.wrap ((Go.bits .and .u64 (a0 / 2) 6148914691236517205) + (Go.bits .and .u64 a0 6148914691236517205))) / 4) 3689348814741910323) + (Go.bits .and .u64 (IntKind.u64.wrap ((Go.bits .and .u64 (a0 / 2) 6148914691236517205) + (Go.bits .and .u64 a0 6148914691236517205))) 3689348814741910323))) / 16) + (IntKind.u64.wrap ((Go.bits .and .u64 ((IntKind.u64.wrap ((Go.bits .and .u64 (a0 / 2) 6148914691236517205) + (Go.bits .and .u64 a0 6148914691236517205))) / 4) 3689348814741910323) + (Go.bits .and .u64 (IntKind.u64.wrap ((Go.bits .and .u64 (a0 / 2) 6148914691236517205) + (Go.bits .and .u64 a0 6148914691236517205))) 3689348814741910323))))) 1085102592571150095) / 256))) + ((IntKind.u64.wrap ((Go.bits .and .u64 (IntKind.u64.wrap (((IntKind.u64.wrap ((Go.bits .and .u64 ((IntKind.u64.wrap ((Go.bits .and .u64 (a0 / 2) 6148914691236517205) + (Go.bits .and .u64 a0 6148914691236517205))) / 4) 3689348814741910323) + (Go.bits .and .u64 (IntKind.u64.wrap ((Go.bits .and .u64 (a0 / 2) 6148914691236517205) + (Go.bits .and .u64 a0 6148914691236517205))) 3689348814741910323))) / 16) + (IntKind.u64.wrap ((Go.bits .and .u64 ((IntKind.u64.wrap ((Go.bits .and .u64 (a0 / 2) 6148914691236517205) + (Go.bits .and .u64 a0 6148914691236517205))) / 4) 3689348814741910323) + (Go.bits .and .u64 (IntKind.u64.wrap ((Go.bits .and .u64 (a0 / 2) 6148914691236517205) + (Go.bits .and .u64 a0 6148914691236517205))) 3689348814741910323))))) 1085102592571150095) + ((Go.bits .and .u64 (IntKind.u64.wrap (((IntKind.u64.wrap ((Go.bits .and .u64 ((IntKind.u64.wrap ((Go.bits .and .u64 (a0 / 2) 6148914691236517205) + (Go.bits .and .u64 a0 6148914691236517205))) / 4) 3689348814741910323) + (Go.bits .and .u64 (IntKind.u64.wrap ((Go.bits .and .u64 (a0 / 2) 6148914691236517205) + (Go.bits .and .u64 a0 6148914691236517205))) 3689348814741910323))) / 16) + (IntKind.u64.wrap ((Go.bits .and .u64 ((IntKind.u64.wrap ((Go.bits .and .u64 (a0 / 2) 6148914691236517205) + (Go.bits .and .u64 a0 6148914691236517205))) / 4) 3689348814741910323) + (Go.bits .and .u64 (IntKind.u64.wrap ((Go.bits .and .u64 (a0 / 2) 6148914691236517205) + (Go.bits .and .u64 a0 6148914691236517205))) 3689348814741910323))))) 1085102592571150095) / 256))) / 65536))) + ((IntKind.u64.wrap ((IntKind.u64.wrap ((Go.bits .and .u64 (IntKind.u64.wrap (((IntKind.u64.wrap ((Go.bits .and .u64 ((IntKind.u64.wrap ((Go.bits .and .u64 (a0 / 2) 6148914691236517205) + (Go.bits .and .u64 a0 6148914691236517205))) / 4) 3689348814741910323) + (Go.bits .and .u64 (IntKind.u64.wrap ((Go.bits .and .u64 (a0 / 2) 6148914691236517205) + (Go.bits .and .u64 a0 6148914691236517205))) 3689348814741910323))) / 16) + (IntKind.u64.wrap ((Go.bits .and .u64 ((IntKind.u64.wrap ((Go.bits .and .u64 (a0 / 2) 6148914691236517205) + (Go.bits .and .u64 a0 6148914691236517205))) / 4) 3689348814741910323) + (Go.bits .and .u64 (IntKind.u64.wrap ((Go.bits .and .u64 (a0 / 2) 6148914691236517205) + (Go.bits .and .u64 a0 6148914691236517205))) 3689348814741910323))))) 1085102592571150095) + ((Go.bits .and .u64 (IntKind.u64.wrap (((IntKind.u64.wrap ((Go.bits .and .u64 ((IntKind.u64.wrap ((Go.bits .and .u64 (a0 / 2) 6148914691236517205) + (Go.bits .and .u64 a0 6148914691236517205))) / 4) 3689348814741910323) + (Go.bits .and .u64 (IntKind.u64.wrap ((Go.bits .and .u64 (a0 / 2) 6148914691236517205) + (Go.bits .and .u64 a0 6148914691236517205))) 3689348814741910323))) / 16) + (IntKind.u64.wrap ((Go.bits .and .u64 ((IntKind.u64.wrap ((Go.bits .and .u64 (a0 / 2) 6148914691236517205) + (Go.bits .and .u64 a0 6148914691236517205))) / 4) 3689348814741910323) + (Go.bits .and .u64 (IntKind.u64.wrap ((Go.bits .and .u64 (a0 / 2) 6148914691236517205) + (Go.bits .and .u64 a0 6148914691236517205))) 3689348814741910323))))) 1085102592571150095) / 256))) + ((IntKind.u64.wrap ((Go.bits .and .u64 (IntKind.u64.wrap (((IntKind.u64.wrap ((Go.bits .and .u64 ((IntKind.u64.wrap ((Go.bits .and .u64 (a0 / 2) 6148914691236517205) + (Go.bits .and .u64 a0 6148914691236517205))) / 4) 3689348814741910323) + (Go.bits .and .u64 (IntKind.u64.wrap ((Go.bits .and .u64 (a0 / 2) 6148914691236517205) + (Go.bits .and .u64 a0 6148914691236517205))) 3689348814741910323))) / 16) + (IntKind.u64.wrap ((Go.bits .and .u64 ((IntKind.u64.wrap ((Go.bits .and .u64 (a0 / 2) 6148914691236517205) + (Go.bits .and .u64 a0 6148914691236517205))) / 4) 3689348814741910323) + (Go.bits .and .u64 (IntKind.u64.wrap ((Go.bits .and .u64 (a0 / 2) 6148914691236517205) + (Go.bits .and .u64 a0 6148914691236517205))) 3689348814741910323))))) 1085102592571150095) + ((Go.bits .and .u64 (IntKind.u64.wrap (((IntKind.u64.wrap ((Go.bits .and .u64 ((IntKind.u64.wrap ((Go.bits .and .u64 (a0 / 2) 6148914691236517205) + (Go.bits .and .u64 a0 6148914691236517205))) / 4) 3689348814741910323) + (Go.bits .and .u64 (IntKind.u64.wrap ((Go.bits .and .u64 (a0 / 2) 6148914691236517205) + (Go.bits .and .u64 a0 6148914691236517205))) 3689348814741910323))) / 16) + (IntKind.u64.wrap ((Go.bits .and .u64 ((IntKind.u64.wrap ((Go.bits .and .u64 (a0 / 2) 6148914691236517205) + (Go.bits .and .u64 a0 6148914691236517205))) / 4) 3689348814741910323) + (Go.bits .and .u64 (IntKind.u64.wrap ((Go.bits .and .u64 (a0 / 2) 6148914691236517205) + (Go.bits .and .u64 a0 6148914691236517205))) 3689348814741910323))))) 1085102592571150095) / 256))) / 65536))) / 4294967296)))) 127)) = some r := h
 clear h
 obtain rfl := Option.some.inj H
 go_enter Try.func102, Try.ntmps102
 go_wp2
 go_ret
 exact ⟨by first | rfl | (simp; done) | (simp [*]; done), by repeat (first | exact Drawn0.refl _ | apply Drawn0.step)⟩
end Go.Proofs.Ytcpojohpmcnnhaa.PA

namespace Go.Proofs.Ytcpojohpmcnnhaa.PA
open Go.RowKit Go.Proofs.YtcpojohpmcnnhaaW.PrintWords Go.Proofs.YtcpojohpmcnnhaaW.PrintLast Go.Proofs.YtcpojohpmcnnhaaW.PrintMore
attribute [local go_sem] max2_int min2_int max_two min_two max_three min_three max_four min_four
set_option linter.unusedVariables false
set_option linter.unusedSimpArgs false
def bits_OnesCount.f (a0 : Int) : Option (Int) := (bits_OnesCount64.f a0).bind fun t135 => (some t135)
set_option maxHeartbeats 8000000 in
set_option maxRecDepth 100000 in
theorem bits_OnesCount.calls (a0 : Int) (r : Int) (w : World) (h : bits_OnesCount.f a0 = some r) :
  Calls Try.prog 96 #[.int .u64 a0] w fun e w' => e = .returned (.int .i64 r) ∧ Drawn0 w w' := by
 have H : ((bits_OnesCount64.f a0).bind fun t135 => (some t135)) = some r := h
 clear h
 replace H := Option.bind_eq_some_iff.mp H
 obtain ⟨t135, A20, H⟩ := H
 replace H : (some t135) = some r := H
 have A2 := Aside0.mk A20
 clear A20
 obtain rfl := Option.some.inj H
 go_enter Try.func96, Try.ntmps96
 go_wp2_with (first | ((with_reducible refine gate_callee (f := 102) rfl ?_); refine goesL_ (some 7) rfl rfl Try.func102 (by kernel_rfl) rfl #[.int .u64 a0] rfl (by (try simp only [List.map_toArray, List.map_cons, List.map_nil]); first | done | rfl | (simp only [List.length_drop, List.length_take]; rfl)) ?_; (with_reducible refine (bits_OnesCount64.calls a0 t135 _ A2.out).mono ?_); rintro e w' ⟨rfl, ⟨nd, rfl⟩⟩; refine ⟨_, rfl, ?_⟩))
 go_ret
 exact ⟨by first | rfl | (simp; done) | (simp [*]; done), by repeat (first | exact Drawn0.refl _ | apply Drawn0.step)⟩
end Go.Proofs.Ytcpojohpmcnnhaa.PA

namespace Go.Proofs.Ytcpojohpmcnnhaa.PA
open Go.RowKit Go.Proofs.YtcpojohpmcnnhaaW.PrintWords Go.Proofs.YtcpojohpmcnnhaaW.PrintLast Go.Proofs.YtcpojohpmcnnhaaW.PrintMore
attribute [local go_sem] max2_int min2_int max_two min_two max_three min_three max_four min_four
set_option linter.unusedVariables false
set_option linter.unusedSimpArgs false
def code_parity.f (a0 : Int) : Option (Int) := (bits_OnesCount.f (IntKind.u64.wrap (a0))).bind fun t136 => (some ((Go.bits .and .i64 t136 1) % 256))
set_option maxHeartbeats 8000000 in
set_option maxRecDepth 100000 in
theorem code_parity.calls (a0 : Int) (r : Int) (w : World) (h : code_parity.f a0 = some r) :
  Calls Try.prog 91 #[.int .i64 a0] w fun e w' => e = .returned (.int .u8 r) ∧ Drawn0 w w' := by
 have H : ((bits_OnesCount.f (IntKind.u64.wrap (a0))).bind fun t136 => (some ((Go.bits .and .i64 t136 1) % 256))) = some r := h
 clear h
 replace H := Option.bind_eq_some_iff.mp H
 obtain ⟨t136, A20, H⟩ := H
 replace H : (some ((Go.bits .and .i64 t136 1) % 256)) = some r := H
 have A2 := Aside0.mk A20
 clear A20
 obtain rfl := Option.some.inj H
 go_enter Try.func91, Try.ntmps91
 go_wp2_with (first | ((with_reducible refine gate_callee (f := 96) rfl ?_); refine goesL_ (some 5) rfl rfl Try.func96 (by kernel_rfl) rfl #[.int .u64 (IntKind.u64.wrap (a0))] rfl (by (try simp only [List.map_toArray, List.map_cons, List.map_nil]); first | done | rfl | (simp only [List.length_drop, List.length_take]; rfl)) ?_; (with_reducible refine (bits_OnesCount.calls (IntKind.u64.wrap (a0)) t136 _ A2.out).mono ?_); rintro e w' ⟨rfl, ⟨nd, rfl⟩⟩; refine ⟨_, rfl, ?_⟩))
 go_ret
 exact ⟨by first | rfl | (simp; done) | (simp [*]; done), by repeat (first | exact Drawn0.refl _ | apply Drawn0.step)⟩
end Go.Proofs.Ytcpojohpmcnnhaa.PA

namespace Go.Proofs.Ytcpojohpmcnnhaa.PA
open Go.RowKit Go.Proofs.YtcpojohpmcnnhaaW.PrintWords Go.Proofs.YtcpojohpmcnnhaaW.PrintLast Go.Proofs.YtcpojohpmcnnhaaW.PrintMore
attribute [local go_sem] max2_int min2_int max_two min_two max_three min_three max_four min_four
set_option linter.unusedVariables false
set_option linter.unusedSimpArgs false
def code_taps_out.f (a0_0 : Int) (a0_1 : Int) (a1 : Int) : Option (Int × Int) := (code_parity.f (Go.bits .and .i64 a1 a0_0)).bind fun t139 => ((code_parity.f (Go.bits .and .i64 a1 a0_1)).bind fun t140 => (some ((48 + t139) % 256, (48 + t140) % 256)))
def code_taps_out.T1 : Bool × List (List Nat × List Nat) := (true, [([], []), ([], []), ([1], [1]), ([0, 2], [0, 2]), ([3], [3]), ([4], [4]), ([], []), ([], []), ([7], [7]), ([6, 8], [6, 8]), ([9, 4], [9]), ([10], [10]), ([5, 11], [5, 11]), ([12, 10, 0, 1, 2, 3, 4, 5, 6, 7, 8, 9, 10, 11, 12], [12])])
def code_taps_out.B1 : List Nat := [0, 0, 2, 7, 15, 31, 0, 0, 128, 448, 991, 2015, 4095, 8191]
theorem code_taps_out.tab1 : rtab .any (opsOf Try.f76 1) = code_taps_out.T1 := by kernel_rfl
theorem code_taps_out.bits1 : waitsOk code_taps_out.T1.2 code_taps_out.B1 = true := by kernel_rfl
set_option maxHeartbeats 8000000 in
set_option maxRecDepth 100000 in
theorem code_taps_out.calls (a0_0 : Int) (a0_1 : Int) (a1 : Int) (r1 : Int) (r2 : Int) (w : World) (h : code_taps_out.f a0_0 a0_1 a1 = some (r1, r2)) :
  Calls Try.prog 76 #[.agg #[.int .i64 a0_0, .int .i64 a0_1], .int .i64 a1] w fun e w' => e = .returned (.agg #[.int .u8 r1, .int .u8 r2]) ∧ Below w.heap.size w w' := by
 have hu77 := Try.underlying77
 have hu104 := Try.underlying104
 have HB := Aside0.mk (Below.refl w.heap.size w)
 have H : ((code_parity.f (Go.bits .and .i64 a1 a0_0)).bind fun t139 => ((code_parity.f (Go.bits .and .i64 a1 a0_1)).bind fun t140 => (some ((48 + t139) % 256, (48 + t140) % 256)))) = some (r1, r2) := h
 clear h
 replace H := Option.bind_eq_some_iff.mp H
 obtain ⟨t139, A30, H⟩ := H
 replace H : ((code_parity.f (Go.bits .and .i64 a1 a0_1)).bind fun t140 => (some ((48 + t139) % 256, (48 + t140) % 256))) = some (r1, r2) := H
 have A3 := Aside0.mk A30
 clear A30
 replace H := Option.bind_eq_some_iff.mp H
 obtain ⟨t140, A40, H⟩ := H
 replace H : (some ((48 + t139) % 256, (48 + t140) % 256)) = some (r1, r2) := H
 have A4 := Aside0.mk A40
 clear A40
 simp only [Option.some.injEq, Prod.mk.injEq] at H
 obtain ⟨rfl, rfl⟩ := H
 go_enter Try.func76, Try.ntmps76
 try go_wp2_with (first | ((with_reducible refine gate_dst (N := 2) rfl ?_); refine box_event ?hg (N := 2) ?hd (cs := #[.int .i64 a0_0, .int .i64 a0_1]) (t := 77) ?hr ?_; (case hd => rfl); (case hg => rfl); (case hr => first | (go_simp; done) | (go_simp; rfl)); intro gb137 hg w5 hbox hb; have n0_ := Aside0.mk (below_step (by repeat (first | (with_reducible first | exact HB.out | apply below_alloc | apply pw_below_drewN | apply below_drew1) | exact HB.out)) hb); have n1_ := Aside0.mk (hbox); have n2_ := Aside0.mk ((by rw [hg]; exact (below_size (by repeat (first | (with_reducible first | exact HB.out | apply below_alloc | apply pw_below_drewN | apply below_drew1) | exact HB.out))) : w.heap.size ≤ gb137)); have n3_ := Aside0.mk ((by rw [hg]; exact (below_size (by repeat (first | (with_reducible first | exact HB.out | apply below_alloc | apply pw_below_drewN | apply below_drew1) | exact HB.out))) : w.heap.size ≤ gb137)); clear HB; have HB := n0_; have BK137 := n1_; have GW137 := n2_; have GE137 := n3_; clear n0_ n1_ n2_ n3_; clear hb hbox hg) | ((with_reducible refine gate_dst (N := 4) rfl ?_); refine box_event ?hg (N := 4) ?hd (cs := #[.int .u8 0, .int .u8 0]) (t := 104) ?hr ?_; (case hd => rfl); (case hg => rfl); (case hr => first | (go_simp; done) | (go_simp; rfl)); intro gb138 hg w6 hbox hb; have n0_ := Aside0.mk (blk_below (g := gb137) (o := .cells #[.int .i64 a0_0, .int .i64 a0_1] 77 (0, 0)) (by (with_reducible repeat (first | refine blk_drewN ?_ _ | refine blk_drew ?_ | refine blk_alloc ?_ _)); exact BK137.out) hb); have n1_ := Aside0.mk (below_step (by repeat (first | (with_reducible first | exact HB.out | apply below_alloc | apply pw_below_drewN | apply below_drew1 | refine below_set ?_ GE137.out) | exact HB.out)) hb); have n2_ := Aside0.mk (hbox); have n3_ := Aside0.mk ((by rw [hg]; exact (below_size (by repeat (first | (with_reducible first | exact HB.out | apply below_alloc | apply pw_below_drewN | apply below_drew1 | refine below_set ?_ GE137.out) | exact HB.out))) : w.heap.size ≤ gb138)); have n4_ := Aside0.mk ((by rw [hg]; exact (below_size (by repeat (first | (with_reducible first | exact HB.out | apply below_alloc | apply pw_below_drewN | apply below_drew1 | refine below_set ?_ GE137.out) | exact HB.out))) : w.heap.size ≤ gb138)); have n5_ := Aside0.mk ((by rw [hg]; exact Nat.ne_of_lt (blk_lt (g := gb137) (o := .cells #[.int .i64 a0_0, .int .i64 a0_1] 77 (0, 0)) (by (with_reducible repeat (first | refine blk_drewN ?_ _ | refine blk_drew ?_ | refine blk_alloc ?_ _)); exact BK137.out)) : gb137 ≠ gb138)); have n6_ := Aside0.mk ((by rw [hg]; exact Nat.ne_of_gt (blk_lt (g := gb137) (o := .cells #[.int .i64 a0_0, .int .i64 a0_1] 77 (0, 0)) (by (with_reducible repeat (first | refine blk_drewN ?_ _ | refine blk_drew ?_ | refine blk_alloc ?_ _)); exact BK137.out)) : gb138 ≠ gb137)); clear BK137; clear HB; have BK137 := n0_; have HB := n1_; have BK138 := n2_; have GW138 := n3_; have GE138 := n4_; have NB137_138 := n5_; have NB138_137 := n6_; clear n0_ n1_ n2_ n3_ n4_ n5_ n6_; clear hb hbox hg))
 have n0_ := Aside0.mk (blk_drew BK137.out)
 have n1_ := Aside0.mk (blk_drew BK138.out)
 have n2_ := Aside0.mk (below_drew1 HB.out)
 clear BK137
 clear BK138
 clear HB
 have BK137 := n0_
 have BK138 := n1_
 have HB := n2_
 clear n0_ n1_ n2_
 refine start_ (n := 14) (S := fun w' => w'.cell? ⟨gb137, 0, none⟩ = some (.int .i64 a0_0) ∧ w'.cell? ⟨gb137, 1, none⟩ = some (.int .i64 a0_1)) (ds := []) #[false, false, false, false, false, false, false, false, false, false, false, false, false, false] (by kernel_rfl) rfl rfl ⟨(blk_cell BK137.out 0).trans rfl, (blk_cell BK137.out 1).trans rfl⟩ (fun hHeld => ?_); refine with_tabW code_taps_out.tab1 code_taps_out.bits1 (fun HT_ HW_ => ?_)
 generalize w6.drew = w7 at BK137 BK138 HB hHeld ⊢
 refine pure_ (i := 0) (N := some 5) (v := ?_) (a' := ?_) #[true, false, false, false, false, false, false, false, false, false, false, false, false, false] rfl rfl (any_of HT_.out (by kernel_rfl)) (fun _ _ _ h => h) (Or.inl ⟨by rfl, ?_⟩) ?_ ?_
 rotate_left
 ·
  intro w'
  go_simp
  with_reducible rfl
 rotate_left
 ·
  simp only [Act.put, List.setIfInBounds_toArray, List.set_cons_zero, List.set_cons_succ, i64_w, i32_w]
  rfl
 refine pure_ (i := 1) (N := some 6) (v := ?_) (a' := ?_) #[true, true, false, false, false, false, false, false, false, false, false, false, false, false] rfl rfl (any_of HT_.out (by kernel_rfl)) (fun _ _ _ h => h) (Or.inl ⟨by rfl, ?_⟩) ?_ ?_
 rotate_left
 ·
  intro w'
  go_simp
  with_reducible rfl
 rotate_left
 ·
  simp only [Act.put, List.setIfInBounds_toArray, List.set_cons_zero, List.set_cons_succ, i64_w, i32_w]
  rfl
 refine pure_ (i := 6) (N := some 11) (v := ?_) (a' := ?_) #[true, true, false, false, false, false, true, false, false, false, false, false, false, false] rfl rfl (any_of HT_.out (by kernel_rfl)) (fun _ _ _ h => h) (Or.inl ⟨by rfl, ?_⟩) ?_ ?_
 rotate_left
 ·
  intro w'
  go_simp
  with_reducible rfl
 rotate_left
 ·
  simp only [Act.put, List.setIfInBounds_toArray, List.set_cons_zero, List.set_cons_succ, i64_w, i32_w]
  rfl
 refine pure_ (i := 7) (N := some 12) (v := ?_) (a' := ?_) #[true, true, false, false, false, false, true, true, false, false, false, false, false, false] rfl rfl (any_of HT_.out (by kernel_rfl)) (fun _ _ _ h => h) (Or.inl ⟨by rfl, ?_⟩) ?_ ?_
 rotate_left
 ·
  intro w'
  go_simp
  with_reducible rfl
 rotate_left
 ·
  simp only [Act.put, List.setIfInBounds_toArray, List.set_cons_zero, List.set_cons_succ, i64_w, i32_w]
  rfl
 refine take_ (i := 2) (N := some 7) (v := ?_) (a' := ?_) #[true, true, true, false, false, false, true, true, false, false, false, false, false, false] rfl rfl (take_ofW HT_.out HW_.out (by kernel_rfl)) (fun _ _ _ h => h) (Or.inl ⟨by rfl, ?_⟩) hHeld ?_ ?_
 rotate_left
 ·
  rintro w' ⟨s0, s1⟩
  go_simp
  with_reducible rfl
 rotate_left
 ·
  simp only [Act.put, List.setIfInBounds_toArray, List.set_cons_zero, List.set_cons_succ, i64_w, i32_w]
  rfl
 refine pure_ (i := 3) (N := some 8) (v := ?_) (a' := ?_) #[true, true, true, true, false, false, true, true, false, false, false, false, false, false] rfl rfl (any_of HT_.out (by kernel_rfl)) (fun _ _ _ h => h) (Or.inl ⟨by rfl, ?_⟩) ?_ ?_
 rotate_left
 ·
  intro w'
  go_simp
  with_reducible rfl
 rotate_left
 ·
  simp only [Act.put, List.setIfInBounds_toArray, List.set_cons_zero, List.set_cons_succ, i64_w, i32_w]
  rfl
 refine take_ (i := 8) (N := some 13) (v := ?_) (a' := ?_) #[true, true, true, true, false, false, true, true, true, false, false, false, false, false] rfl rfl (take_ofW HT_.out HW_.out (by kernel_rfl)) (fun _ _ _ h => h) (Or.inl ⟨by rfl, ?_⟩) hHeld ?_ ?_
 rotate_left
 ·
  rintro w' ⟨s0, s1⟩
  go_simp
  with_reducible rfl
 rotate_left
 ·
  simp only [Act.put, List.setIfInBounds_toArray, List.set_cons_zero, List.set_cons_succ, i64_w, i32_w]
  rfl
 refine pure_ (i := 9) (N := some 14) (v := ?_) (a' := ?_) #[true, true, true, true, false, false, true, true, true, true, false, false, false, false] rfl rfl (any_of HT_.out (by kernel_rfl)) (fun _ _ _ h => h) (Or.inl ⟨by rfl, ?_⟩) ?_ ?_
 rotate_left
 ·
  intro w'
  go_simp
  with_reducible rfl
 rotate_left
 ·
  simp only [Act.put, List.setIfInBounds_toArray, List.set_cons_zero, List.set_cons_succ, i64_w, i32_w]
  rfl
 refine one_ (i := 4) (N := some 9) #[true, true, true, true, true, false, true, true, true, true, false, false, false, false] rfl rfl (one_of HT_.out (by kernel_rfl)) (by decide) (fun K hK => ?_)
 refine goes_ Try.func91 (by kernel_rfl) rfl #[.int .i64 (Go.bits .and .i64 a1 a0_0)] (by rfl) rfl rfl (by (try simp only [List.map_toArray, List.map_cons, List.map_nil]); first | done | rfl | (simp only [List.length_drop, List.length_take]; rfl)) ?_
 with_reducible refine (code_parity.calls (Go.bits .and .i64 a1 a0_0) t139 _ A3.out).mono ?_
 rintro e w' ⟨rfl, ⟨nd, rfl⟩⟩
 refine ⟨_, rfl, ?_⟩
 refine hK.out _ _ ⟨(blk_cell BK137.out 0).trans rfl, (blk_cell BK137.out 1).trans rfl⟩ (fun hHeld => ?_)
 clear hK K
 refine norm_ (a' := ?_) ?_ ?_
 rotate_left
 ·
  show Act.put _ (some 9) _ = _
  simp only [Act.put, List.setIfInBounds_toArray, List.set_cons_zero, List.set_cons_succ, i64_w, i32_w]
  rfl
 refine pure_ (i := 5) (N := some 10) (v := ?_) (a' := ?_) #[true, true, true, true, true, true, true, true, true, true, false, false, false, false] rfl rfl (any_of HT_.out (by kernel_rfl)) (fun _ _ _ h => h) (Or.inl ⟨by rfl, ?_⟩) ?_ ?_
 rotate_left
 ·
  intro w'
  go_simp
  with_reducible rfl
 rotate_left
 ·
  simp only [Act.put, List.setIfInBounds_toArray, List.set_cons_zero, List.set_cons_succ, i64_w, i32_w]
  rfl
 refine one_ (i := 10) (N := some 15) #[true, true, true, true, true, true, true, true, true, true, true, false, false, false] rfl rfl (one_of HT_.out (by kernel_rfl)) (by decide) (fun K hK => ?_)
 refine goes_ Try.func91 (by kernel_rfl) rfl #[.int .i64 (Go.bits .and .i64 a1 a0_1)] (by rfl) rfl rfl (by (try simp only [List.map_toArray, List.map_cons, List.map_nil]); first | done | rfl | (simp only [List.length_drop, List.length_take]; rfl)) ?_
 with_reducible refine (code_parity.calls (Go.bits .and .i64 a1 a0_1) t140 _ A4.out).mono ?_
 rintro e w' ⟨rfl, ⟨nd, rfl⟩⟩
 refine ⟨_, rfl, ?_⟩
 refine hK.out _ _ ⟨(blk_cell BK137.out 0).trans rfl, (blk_cell BK137.out 1).trans rfl⟩ (fun hHeld => ?_)
 clear hK K
 refine norm_ (a' := ?_) ?_ ?_
 rotate_left
 ·
  show Act.put _ (some 15) _ = _
  simp only [Act.put, List.setIfInBounds_toArray, List.set_cons_zero, List.set_cons_succ, i64_w, i32_w]
  rfl
 refine pure_ (i := 11) (N := some 16) (v := ?_) (a' := ?_) #[true, true, true, true, true, true, true, true, true, true, true, true, false, false] rfl rfl (any_of HT_.out (by kernel_rfl)) (fun _ _ _ h => h) (Or.inl ⟨by rfl, ?_⟩) ?_ ?_
 rotate_left
 ·
  intro w'
  go_simp
  with_reducible rfl
 rotate_left
 ·
  simp only [Act.put, List.setIfInBounds_toArray, List.set_cons_zero, List.set_cons_succ, i64_w, i32_w]
  rfl
 refine pure_ (i := 12) (N := some 17) (v := ?_) (a' := ?_) #[true, true, true, true, true, true, true, true, true, true, true, true, true, false] rfl rfl (any_of HT_.out (by kernel_rfl)) (fun _ _ _ h => h) (Or.inl ⟨by rfl, ?_⟩) ?_ ?_
 rotate_left
 ·
  intro w'
  go_simp
  with_reducible rfl
 rotate_left
 ·
  simp only [Act.put, List.setIfInBounds_toArray, List.set_cons_zero, List.set_cons_succ, i64_w, i32_w]
  rfl
 refine one_ (i := 13) (N := none) #[true, true, true, true, true, true, true, true, true, true, true, true, true, true] rfl rfl (one_of HT_.out (by kernel_rfl)) (by decide) (fun K hK => ?_)
 have hs8 : w7.cell? ⟨gb138, 0, none⟩ = some (.int .u8 0) := (blk_cell BK138.out 0).trans rfl
 have hfs8 := blk_frozen BK138.out 0
 have hns8_0 := NB137_138.out
 have hms8_0 := NB138_137.out
 have hs9 : w7.cell? ⟨gb138, 1, none⟩ = some (.int .u8 0) := (blk_cell BK138.out 1).trans rfl
 have hfs9 := blk_frozen BK138.out 1
 have hns9_0 := NB137_138.out
 have hms9_0 := NB138_137.out
 refine skip_ (w1 := ?_) (by rfl) rfl ?_ ?_
 rotate_left
 ·
  go_simp
  rfl
 refine hK.out _ _ ⟨((cell_far (p := ⟨gb138, _, none⟩) NB137_138.out _).trans (((cell_far (p := ⟨gb138, _, none⟩) NB137_138.out _).trans (hHeld.1)))), ((cell_far (p := ⟨gb138, _, none⟩) NB137_138.out _).trans (((cell_far (p := ⟨gb138, _, none⟩) NB137_138.out _).trans (hHeld.2))))⟩ (fun hHeld => ?_)
 clear hK K
 refine done_ (done_of HT_.out (by kernel_rfl)) ?_
 try go_wp2
 refine bodyPost_ret (results_cell_row rfl _ _ gb138 104 #[.int .u8 ((48 + t139) % 256), .int .u8 ((48 + t140) % 256)] (0, 0) _ rfl (by (with_reducible repeat (first | refine blk_drewN ?_ _ | refine blk_drew ?_ | refine blk_alloc ?_ _)); refine blk_put (cs := #[.int .u8 ((48 + t139) % 256), .int .u8 0]) ?_ 1 _ rfl; (with_reducible repeat (first | refine blk_drewN ?_ _ | refine blk_drew ?_ | refine blk_alloc ?_ _)); refine blk_put (cs := #[.int .u8 0, .int .u8 0]) ?_ 0 _ rfl; (with_reducible repeat (first | refine blk_drewN ?_ _ | refine blk_drew ?_ | refine blk_alloc ?_ _)); exact BK138.out) Try.underlying104 rfl (by kernel_rfl)) rfl ?_
 exact ⟨by first | rfl | (simp [errW_none, errW_some] <;> rfl) | (simp [*, errW_none, errW_some] <;> rfl), by repeat (first | (with_reducible first | exact HB.out | apply below_alloc | apply pw_below_drewN | apply below_drew1 | refine below_set ?_ GE137.out | refine below_set ?_ GE138.out) | exact HB.out)⟩
end Go.Proofs.Ytcpojohpmcnnhaa.PA

set_option linter.unusedVariables false
set_option linter.unusedSimpArgs false
namespace Go.Proofs.Ytcpojohpmcnnhaa.A
open Go.RowKit Go.Proofs.YtcpojohpmcnnhaaW.PrintWords Go.Proofs.YtcpojohpmcnnhaaW.PrintLast Go.Proofs.YtcpojohpmcnnhaaW.PrintMore
open Go.Proofs.Ytcpojohpmcnnhaa.PA
def parN (g v : Nat) : Nat := ((g &&& v) % 2 + (g &&& v) / 2 % 2 + (g &&& v) / 4 % 2 + (g &&& v) / 8 % 2) % 2
theorem par_tab : ∀ g v : Fin 16, code_parity.f (Go.bits .and .i64 ((v.val : Nat) : Int) ((g.val : Nat) : Int)) = some ((parN g.val v.val : Nat) : Int) := by decide +kernel
theorem parN_01 (g v : Nat) : parN g v = 0 ∨ parN g v = 1 := by unfold parN; omega
theorem out_f {g h v : Nat} (hg : g < 16) (hh : h < 16) (hv : v < 16) : code_taps_out.f (g : Int) (h : Int) (v : Int) = some (48 + (parN g v : Int), 48 + (parN h v : Int)) := by
  unfold code_taps_out.f
  rw [par_tab ⟨g, hg⟩ ⟨v, hv⟩, par_tab ⟨h, hh⟩ ⟨v, hv⟩]
  simp only [Option.bind_some]
  rcases parN_01 g v with e | e <;> rcases parN_01 h v with e' | e' <;> rw [e, e'] <;> rfl
theorem out_c {g h v : Nat} (hg : g < 16) (hh : h < 16) (hv : v < 16) (w : World) :
    Calls Try.prog 76 #[.agg #[.int .i64 (g : Int), .int .i64 (h : Int)], .int .i64 (v : Int)] w fun e w' => e = .returned (.agg #[.int .u8 (48 + (parN g v : Int)), .int .u8 (48 + (parN h v : Int))]) ∧ Below w.heap.size w w' :=
  code_taps_out.calls _ _ _ _ _ w (out_f hg hh hv)
def winN (l : List UInt8) : Nat → Nat
  | 0 => 0
  | k + 1 => (2 * winN l k) % 16 + ((l.getD k 48).toNat - 48)
def chB (g v : Nat) : UInt8 := UInt8.ofNat (48 + parN g v)
def cardB (g h : Nat) (l : List UInt8) : Nat → List UInt8
  | 0 => []
  | k + 1 => cardB g h l k ++ [chB g (winN l (k + 1)), chB h (winN l (k + 1))]
def bitsB (l : List UInt8) : Bool := l.all (fun c => c == 48 || c == 49)
theorem bit_getD {l : List UInt8} (h : bitsB l = true) (k : Nat) : l.getD k 48 = 48 ∨ l.getD k 48 = 49 := by
  by_cases hk : k < l.length
  · have := List.all_eq_true.1 h (l.getD k 48) (by rw [List.getD_eq_getElem?_getD, List.getElem?_eq_getElem hk]; exact List.getElem_mem hk)
    simpa using this
  · left; rw [List.getD_eq_getElem?_getD, List.getElem?_eq_none (by omega)]; rfl
theorem win_lt {l : List UInt8} (h : bitsB l = true) : ∀ k, winN l k < 16
  | 0 => by simp [winN]
  | k + 1 => by
    unfold winN
    rcases bit_getD h k with e | e <;> rw [e] <;> simp <;> omega
theorem card_len (g h : Nat) (l : List UInt8) : ∀ k, (cardB g h l k).length = 2 * k
  | 0 => rfl
  | k + 1 => by simp [cardB, card_len g h l k]; omega
theorem or_tab : ∀ v : Fin 16, bits BinOp.or IntKind.i64 (((2 * v.val % 16 : Nat) : Int)) 0 = ((2 * v.val % 16 : Nat) : Int) ∧ bits BinOp.or IntKind.i64 (((2 * v.val % 16 : Nat) : Int)) 1 = ((2 * v.val % 16 + 1 : Nat) : Int) := by decide +kernel
theorem and_tab : ∀ v : Fin 16, bits BinOp.and IntKind.i64 ((v.val : Int) * 2) 15 = ((2 * v.val % 16 : Nat) : Int) := by decide +kernel
theorem chB_nat (g v : Nat) : ((chB g v).toNat : Int) = 48 + (parN g v : Int) := by
  unfold chB
  rcases parN_01 g v with e | e <;> rw [e] <;> rfl
theorem own_below {w w' : World} {base e size : Nat} {v : Value} {n : Nat} {xs : List Value} (h : w.ownsRow base e size v n xs) (hb : Below w.heap.size w w') : w'.ownsRow base e size v n xs := by
  rcases ho : v.ownBlock with _ | k
  · exact h.kept (row := none) ⟨hb.os, hb.tape, hb.output, hb.size, fun k hk _ => hb.block k hk⟩ (.inl ho)
  · exact h.kept (row := none) ⟨hb.os, hb.tape, hb.output, hb.size, fun k hk _ => hb.block k hk⟩ (.inr (by rw [ho]; simp))
structure BX (B b x : Nat) (l : List UInt8) (w : World) : Prop where
  is : Lib.IsBuilder 89 5 B b (Lib.byteCells l) w
  ne : x ≠ b
  apart : ∀ p v, w.heap[b]? = some (.cells #[p, v] 89 (0, 0)) → v.ownBlock ≠ some x
theorem BX.below {B b x : Nat} {l : List UInt8} {w w' : World} (h : BX B b x l w) (hb : Below w.heap.size w w') (hlt : b < w.heap.size) (_hx : x < w.heap.size) : BX B b x l w' := by
  have key : ∀ p, Lib.BuilderAt 89 5 B b p (Lib.byteCells l) w → Lib.BuilderAt 89 5 B b p (Lib.byteCells l) w' := fun p hp => by
    obtain ⟨h1, v, h2, h3, h4⟩ := hp
    refine ⟨h1, v, by rw [hb.block b hlt]; exact h2, own_below h3 hb, h4⟩
  refine ⟨h.is.imp (key _) (key _), h.ne, fun p v hv => h.apart p v ?_⟩
  rw [← hb.block b hlt]; exact hv
theorem copy_x (B b x : Nat) (l : List UInt8) (w : World) (h : BX B b x l w) :
    Calls Try.prog 84 #[.pointer (some ⟨b, 0, none⟩)] w fun e w' => e = .returned (.tuple #[]) ∧ (∃ v, w'.heap[b]? = some (.cells #[.pointer (some ⟨b, 0, none⟩), v] 89 (0, 0)) ∧ w'.ownsRow B 5 1 v (Lib.byteCells l).length (Lib.byteCells l) ∧ v.ownBlock ≠ some b ∧ v.ownBlock ≠ some x) ∧
      B ≤ b ∧ Below B w w' ∧ (∀ k, k ≠ b → w'.heap[k]? = w.heap[k]?) ∧ w'.heap.size = w.heap.size := by
  rcases h.is with hb | hb
  · refine (copy_fresh b w hb.cell0 hb.shape hb.frozen0).mono ?_
    rintro e w' ⟨rfl, rfl⟩
    have hu := hb.used (.pointer (some ⟨b, 0, none⟩))
    obtain ⟨hB, v0, h1, _, _⟩ := id hb
    obtain ⟨_, v, h2, h3, h4⟩ := hu
    have e1 : v = v0 := by
      have : (w.setCell ⟨b, 0, none⟩ (.pointer (some ⟨b, 0, none⟩))).heap[b]? = some (.cells #[.pointer (some ⟨b, 0, none⟩), v0] 89 (0, 0)) := by simp [World.setCell, Array.getElem?_modify, h1]
      rw [h2] at this
      simpa using this
    subst e1
    exact ⟨rfl, ⟨v, h2, h3, h4, h.apart _ _ h1⟩, hB, (Below.refl B w).setCell (p := ⟨b, 0, none⟩) hB _, fun k hk => Below.heap_setCell _ _ _ _ hk, by simp [World.setCell]⟩
  · refine (copy_used b w hb.cell0).mono ?_
    rintro e w' ⟨rfl, rfl⟩
    obtain ⟨hB, v, h2, h3, h4⟩ := hb
    exact ⟨rfl, ⟨v, h2, h3, h4, h.apart _ _ h2⟩, hB, Below.refl B _, fun _ _ => rfl, rfl⟩
set_option maxHeartbeats 2000000 in
set_option maxRecDepth 100000 in
theorem WriteX_c (B b x : Nat) (l : List UInt8) (ad : Addr) (c : Nat) (ns : List UInt8) (w : World) (h : BX B b x l w) (hx : x < w.heap.size) (hm : 0 < ns.length) (hnews : ∀ j u, (Lib.byteCells ns)[j]? = some u → w.cell? (ad.add j) = some u) (hblk : ∀ j, (ad.add j).block ≠ b)
    (hlen : l.length + ns.length ≤ 1000000) (hBw : B ≤ w.heap.size) :
    Calls Try.prog 77 #[.pointer (some ⟨b, 0, none⟩), .slice (some ad) ns.length c] w fun e w' => e = .returned (.tuple #[.int .i64 ns.length, .nilIface]) ∧ (BX B b x (l ++ ns) w' ∧ Below B w w' ∧ w'.heap[x]? = w.heap[x]? ∧ w.heap.size ≤ w'.heap.size) := by
  obtain ⟨i0, hi, hz0, hz1, hz2⟩ := info_parts infoU8
  obtain ⟨news, hnn⟩ : ∃ news, Lib.byteCells ns = news := ⟨_, rfl⟩
  have hnl : news.length = ns.length := by rw [← hnn, byteCells_len]
  rw [hnn] at hnews
  obtain ⟨m, hmm⟩ : ∃ m, ns.length = m := ⟨_, rfl⟩
  rw [hmm] at hnl hm hlen ⊢
  have h1 : ∀ u ∈ news, u.oneCell' = true := by
    rw [← hnn]
    intro u hu
    simp only [Lib.byteCells, List.mem_map] at hu
    obtain ⟨_, _, rfl⟩ := hu
    rfl
  have hBX := h.ne
  have HN := Lib.hid hnews
  have HBL := Lib.hid hblk
  have HNN := Lib.hid hnn
  have HNL := Lib.hid hnl
  have H1 := Lib.hid h1
  clear hnews hblk hnn hnl h1 hmm
  go_enter Try.func77, Try.ntmps77
  go_wp2_with fail
  refine (copy_x B b x l _ h).mono ?_
  rintro e w1 ⟨rfl, ⟨v, hbk, hown, hne, hnx⟩, hB, hb1, hc1, hs1⟩
  have HC1 := Lib.hid hc1
  have HS1 := Lib.hid hs1
  have hs1' : w.heap.size ≤ w1.heap.size := by omega
  clear hc1 hs1
  have c0 : w1.cell? ⟨b, 0, none⟩ = some (.pointer (some ⟨b, 0, none⟩)) := by rw [Lib.cell_of_heap hbk]; rfl
  have c1 : w1.cell? ⟨b, 1, none⟩ = some v := by rw [Lib.cell_of_heap hbk]; rfl
  have hll : (Lib.byteCells l).length = l.length := byteCells_len l
  have HLL := Lib.hid hll
  clear hll
  go_wp2_with (at_builtin; (refine wpList_append_own_at _ (by rfl) _ _ 59 (by rfl) B 5 i0 (.int .u8 0) 1 1 Try.underlying59 hi hz0 hz1 hz2 rfl (by decide) _ _ _ (by rfl) hown ad m c news (by rfl) (HNL.out.trans (Nat.mul_one m).symm) ?c1 ?c2 ?c3 ?c4 ?c5 ?_))
  case c1 =>
    intro j u hj
    rw [World.cell?_of_block (HC1.out _ (HBL.out j))]
    exact HN.out j u hj
  case c2 => exact H1.out
  case c3 => rw [HLL.out]; unfold maxLen; omega
  case c4 => rw [HLL.out]; omega
  case c5 => omega
  intro v' w2 hown' hgrow _ hat
  obtain ⟨hb2, hfin⟩ := builder_grown (w1 := w) (W := w1) (m := m) hB hbk hne hgrow hb1 hown (by omega) hown' HNL.out.symm
  have hnx' : v'.ownBlock ≠ some x := by
    rcases hat with e | e
    · rw [e]; exact hnx
    · rw [e]; intro e2; injection e2; omega
  have hkx : w2.heap[x]? = w.heap[x]? := by
    rw [hgrow.block x (by omega) (fun e => hnx e.symm)]
    exact HC1.out x hBX
  have hsz2 := hgrow.size
  have d0 : w2.cell? ⟨b, 0, none⟩ = some (.pointer (some ⟨b, 0, none⟩)) := by rw [Lib.cell_of_heap hb2]; rfl
  have d1 : w2.cell? ⟨b, 1, none⟩ = some v := by rw [Lib.cell_of_heap hb2]; rfl
  have f1 : w2.frozen? ⟨b, 1, none⟩ = false := Lib.frozen_of_heap hb2 1
  obtain ⟨ao, n', cap, rfl⟩ : ∃ ao n' cap, v' = .slice ao n' cap := by
    rcases hown'.2 with ⟨hv, _⟩ | ⟨g, cap, cur, hv, _⟩
    · exact ⟨_, _, _, hv⟩
    · exact ⟨_, _, _, hv⟩
  have HF : Hid (BX B b x (l ++ ns) (w2.setCell ⟨b, 1, none⟩ (.slice ao n' cap)) ∧ Below B w (w2.setCell ⟨b, 1, none⟩ (.slice ao n' cap)) ∧ (w2.setCell ⟨b, 1, none⟩ (.slice ao n' cap)).heap[x]? = w.heap[x]? ∧ w.heap.size ≤ (w2.setCell ⟨b, 1, none⟩ (.slice ao n' cap)).heap.size) := by
    obtain ⟨g1, g2⟩ := hfin _ rfl
    refine Lib.hid ⟨⟨.inr ?_, hBX, ?_⟩, g2, ?_, by simp [World.setCell]; omega⟩
    · rw [← HNN.out] at g1
      simpa [Lib.byteCells] using g1
    · intro p v hv
      have hq : (w2.setCell ⟨b, 1, none⟩ (.slice ao n' cap)).heap[b]? = some (.cells #[.pointer (some ⟨b, 0, none⟩), .slice ao n' cap] 89 (0, 0)) := by simp [World.setCell, Array.getElem?_modify, hb2]
      rw [hq] at hv
      simp at hv
      rw [← hv.2]
      exact hnx'
    · rw [Below.heap_setCell _ _ _ _ hBX]; exact hkx
  clear hfin
  go_wp2
  go_ret2
  exact ⟨rfl, HF.out⟩
def msgL (s : ByteArray) : List UInt8 := s.data.toList ++ [48, 48, 48]
theorem msg_bits {s : ByteArray} (h : bitsB s.data.toList = true) : bitsB (msgL s) = true := by
  unfold msgL bitsB at *
  rw [List.all_append, h]; rfl
theorem msg_row (s : ByteArray) (cap k : Nat) (hk : k < s.size + 3) : (bytesRow (s ++ ⟨#[48, 48, 48]⟩) cap)[k]? = some (.int .u8 (((msgL s).getD k 48).toNat : Int)) := by
  have hd : (s ++ (⟨#[48, 48, 48]⟩ : ByteArray)).data = s.data ++ #[48, 48, 48] := by simp
  have hs : (s ++ (⟨#[48, 48, 48]⟩ : ByteArray)).data.size = s.size + 3 := by rw [hd]; simp
  rw [bytesRow_at _ cap k (by omega)]
  have e : (msgL s).getD k 48 = (s ++ (⟨#[48, 48, 48]⟩ : ByteArray)).data[k] := by
    have hl : (s ++ (⟨#[48, 48, 48]⟩ : ByteArray)).data.toList = msgL s := by rw [hd]; simp [msgL]
    rw [← hl, List.getD_eq_getElem?_getD, List.getElem?_eq_getElem (by rw [Array.length_toList]; omega)]
    rfl
  rw [e]
theorem new2 (W : World) (a b : Value) (T : TypeId) : (W.alloc (.cells #[a, b] T)).cell? ((⟨W.heap.size, 0, none⟩ : Addr).add 0) = some a ∧ (W.alloc (.cells #[a, b] T)).cell? ((⟨W.heap.size, 0, none⟩ : Addr).add 1) = some b := by
  have h := heap_alloc_new W (.cells #[a, b] T)
  constructor
  · show World.cell? _ ⟨W.heap.size, 0, none⟩ = _
    unfold World.cell?
    rw [h]; rfl
  · show World.cell? _ ⟨W.heap.size, 1, none⟩ = _
    unfold World.cell?
    rw [h]; rfl
theorem heap3 (w : World) (o0 o1 o2 : Obj) : (((w.alloc o0).alloc o1).alloc o2).drew.heap[w.heap.size]? = some o0 ∧ (((w.alloc o0).alloc o1).alloc o2).drew.heap[w.heap.size + 1]? = some o1 ∧ (((w.alloc o0).alloc o1).alloc o2).drew.heap[w.heap.size + 2]? = some o2 := by
  have e : (((w.alloc o0).alloc o1).alloc o2).drew.heap = ((w.heap.push o0).push o1).push o2 := rfl
  rw [e]
  have s1 : (w.heap.push o0).size = w.heap.size + 1 := by simp
  have s2 : ((w.heap.push o0).push o1).size = w.heap.size + 2 := by simp
  refine ⟨?_, ?_, ?_⟩
  · rw [Array.getElem?_push, if_neg (by omega), Array.getElem?_push, if_neg (by omega), Array.getElem?_push, if_pos rfl]
  · rw [Array.getElem?_push, if_neg (by omega), Array.getElem?_push, if_pos (by omega)]
  · rw [Array.getElem?_push, if_pos (by omega)]
set_option maxHeartbeats 8000000 in
set_option maxRecDepth 100000 in
theorem card_c (g h : Nat) (s : ByteArray) (w : World) (hg : g < 16) (hh : h < 16) (hb : bitsB s.data.toList = true) (hs : s.size ≤ 1000) :
    Calls Try.prog 60 #[.agg #[.int .i64 (g : Int), .int .i64 (h : Int)], .string s] w fun e w' => e = .returned (.string ⟨(cardB g h (msgL s) (s.size + 3)).toArray⟩) ∧ Below w.heap.size w w' := by
  have hconv := fun (W : World) (s' : ByteArray) => run_bytes_of_string (P := Try.prog) W 9 59 5 s' Try.underlying9 Try.underlying59 Try.underlying5
  have HMB := Lib.hid (msg_bits hb)
  clear hb
  go_enter Try.func60, Try.ntmps60
  go_wp2_with fail
  clear hconv
  generalize grownCap _ _ _ _ = cap
  obtain ⟨w1, hw1⟩ : ∃ w1, w1 = (((w.alloc (Obj.cells #[Value.int .i64 (g : Int), Value.int .i64 (h : Int)] 77)).alloc (Obj.cells #[Value.pointer none, Value.slice none 0 0] 89)).alloc (Obj.cells (bytesRow (s ++ ⟨#[48, 48, 48]⟩) cap) 5 ((bytesRow (s ++ ⟨#[48, 48, 48]⟩) cap).size, (bytesRow (s ++ ⟨#[48, 48, 48]⟩) cap).size + 1))).drew := ⟨_, rfl⟩
  rw [← hw1]
  have hz1 : w1.heap.size = w.heap.size + 3 := by rw [hw1]; simp
  have hB1 : Below w.heap.size w w1 := by rw [hw1]; exact ((((Below.refl _ _).alloc (Nat.le_refl _) _).alloc (by simp) _).alloc (by simp; omega) _).drew
  have h0 : w1.heap[w.heap.size]? = some (.cells #[.int .i64 (g : Int), .int .i64 (h : Int)] 77 (0, 0)) := by
    rw [hw1]; exact (heap3 _ _ _ _).1
  have hb1 : w1.heap[w.heap.size + 1]? = some (.cells #[.pointer none, .slice none 0 0] 89 (0, 0)) := by
    rw [hw1]; exact (heap3 _ _ _ _).2.1
  have h2 : w1.heap[w.heap.size + 2]? = some (.cells (bytesRow (s ++ ⟨#[48, 48, 48]⟩) cap) 5 ((bytesRow (s ++ ⟨#[48, 48, 48]⟩) cap).size, (bytesRow (s ++ ⟨#[48, 48, 48]⟩) cap).size + 1)) := by
    rw [hw1]; exact (heap3 _ _ _ _).2.2
  have hBX : BX (w.heap.size + 1) (w.heap.size + 1) (w.heap.size + 2) [] w1 := by
    refine ⟨.inl ⟨Nat.le_refl _, _, hb1, ⟨by simp [Lib.byteCells], .inl ⟨rfl, by simp [Lib.byteCells]⟩⟩, by simp [Value.ownBlock]⟩, by omega, fun p v hv => ?_⟩
    rw [hb1] at hv
    simp at hv
    rw [← hv.2]
    simp [Value.ownBlock]
  have HB1 := Lib.hid hB1
  have H0 := Lib.hid h0
  have H2 := Lib.hid h2
  have HBX := Lib.hid hBX
  clear hw1 hB1 h0 hb1 h2 hBX
  go_loopw [6, 8, 9, 14] (fun v6 _ _ i wr => ∃ k : Nat, i = .int .i64 (k : Int) ∧ v6 = .int .i64 ((winN (msgL s) k : Nat) : Int) ∧ k ≤ s.size + 3 ∧ Hid (BX (w.heap.size + 1) (w.heap.size + 1) (w.heap.size + 2) (cardB g h (msgL s) k) wr) ∧
    Hid (Below (w.heap.size + 1) w1 wr) ∧ Hid (wr.heap[w.heap.size + 2]? = w1.heap[w.heap.size + 2]?) ∧ w.heap.size + 3 ≤ wr.heap.size) (fun _ _ _ i _ => s.size + 3 - (intOf i).toNat)
  case atStart => exact ⟨0, rfl, rfl, Nat.zero_le _, HBX, Lib.hid (Below.refl _ _), Lib.hid rfl, by omega⟩
  case round =>
    obtain ⟨k, rfl, rfl, hk, HK, HB, HX, hsz⟩ := hrel
    have hv16 := win_lt HMB.out (k + 1)
    have hv := win_lt HMB.out k
    have y0 : wr.cell? ⟨w.heap.size, 0, none⟩ = some (.int .i64 (g : Int)) := by rw [HB.out.cell (by show w.heap.size < _; omega)]; simp [World.cell?, H0.out]
    have y1 : wr.cell? ⟨w.heap.size, 1, none⟩ = some (.int .i64 (h : Int)) := by rw [HB.out.cell (by show w.heap.size < _; omega)]; simp [World.cell?, H0.out]
    by_cases hlt : k < s.size + 3
    · have hc : wr.cell? ⟨w.heap.size + 1 + 1, k, none⟩ = some (.int .u8 (((msgL s).getD k 48).toNat : Int)) := by
        have := msg_row s cap k hlt
        simp only [World.cell?]
        rw [show w.heap.size + 1 + 1 = w.heap.size + 2 from rfl, HX.out, H2.out]
        simpa using this
      have hlt' : (k : Int) < (s.size : Int) + 3 := by omega
      obtain ⟨v, hve⟩ : ∃ v, winN (msgL s) k = v := ⟨_, rfl⟩
      have hnext : winN (msgL s) (k + 1) = 2 * v % 16 + (((msgL s).getD k 48).toNat - 48) := by rw [← hve]; rfl
      have hcard : cardB g h (msgL s) (k + 1) = cardB g h (msgL s) k ++ [chB g (winN (msgL s) (k + 1)), chB h (winN (msgL s) (k + 1))] := rfl
      obtain ⟨v2, hv2⟩ : ∃ v2, winN (msgL s) (k + 1) = v2 := ⟨_, rfl⟩
      rw [hv2] at hnext hcard hv16
      rw [hve] at hv ⊢
      have HCARD := Lib.hid hcard
      have HV2 := Lib.hid hv2
      have hand := and_tab ⟨v, hv⟩
      have hor := or_tab ⟨v, hv⟩
      have HAND : Hid (bits BinOp.and IntKind.i64 ((v : Int) * 2) 15 = ((2 * v % 16 : Nat) : Int)) := Lib.hid hand
      have HOR : Hid (bits BinOp.or IntKind.i64 (((2 * v % 16 : Nat) : Int)) 0 = ((2 * v % 16 : Nat) : Int) ∧ bits BinOp.or IntKind.i64 (((2 * v % 16 : Nat) : Int)) 1 = ((2 * v % 16 + 1 : Nat) : Int)) := Lib.hid hor
      have hbit := bit_getD HMB.out k
      clear hcard hv2 hand hor hve
      rcases hbit with e | e
      · rw [e] at hc hnext
        replace hc : wr.cell? ⟨w.heap.size + 1 + 1, k, none⟩ = some (.int .u8 48) := hc
        replace hnext : v2 = 2 * v % 16 := hnext
        have HNEXT := Lib.hid hnext
        clear hnext e
        go_wp2_with fail
        rw [HAND.out, HOR.out.1, ← HNEXT.out]
        refine (out_c hg hh hv16 _).mono ?_
        rintro e w2 ⟨rfl, hB2⟩
        have hz2 := hB2.size
        have HB2 : Hid (BX (w.heap.size + 1) (w.heap.size + 1) (w.heap.size + 2) (cardB g h (msgL s) k) (w2.alloc (Obj.cells #[.int .u8 (48 + (parN g v2 : Int)), .int .u8 (48 + (parN h v2 : Int))] 104))) := Lib.hid (HK.out.below ((hB2.mono (by omega)).alloc (by omega) _) (by omega) (by omega))
        have HX2 : Hid ((w2.alloc (Obj.cells #[.int .u8 (48 + (parN g v2 : Int)), .int .u8 (48 + (parN h v2 : Int))] 104)).heap[w.heap.size + 2]? = w1.heap[w.heap.size + 2]?) := by
          refine Lib.hid ?_
          rw [Lib.alloc_old w2 _ _ (by omega), hB2.block _ (by omega)]
          exact HX.out
        have HBB := Lib.hid (HB.out.trans ((hB2.mono (by omega)).alloc (by omega) (Obj.cells #[.int .u8 (48 + (parN g v2 : Int)), .int .u8 (48 + (parN h v2 : Int))] 104)))
        clear hB2
        go_wp2_with fail
        refine (WriteX_c (w.heap.size + 1) (w.heap.size + 1) (w.heap.size + 2) (cardB g h (msgL s) k) ⟨w2.heap.size, 0, none⟩ 2 [chB g v2, chB h v2] _ HB2.out (by simp; omega) (by simp) ?_ ?_ ?_ (by simp; omega)).mono ?_
        · intro j u hj
          match j, hj with
          | 0, hj => simp [Lib.byteCells, chB_nat] at hj; subst hj; exact (new2 _ _ _ _).1
          | 1, hj => simp [Lib.byteCells, chB_nat] at hj; subst hj; exact (new2 _ _ _ _).2
          | j + 2, hj => simp [Lib.byteCells] at hj
        · intro j
          have : ((⟨w2.heap.size, 0, none⟩ : Addr).add j).block = w2.heap.size := by unfold Addr.add; split <;> rfl
          rw [this]; omega
        · rw [card_len]; simp; omega
        · rintro e w3 ⟨rfl, hBX3, hB3, hX3, hz3⟩
          have HK3 : Hid (BX (w.heap.size + 1) (w.heap.size + 1) (w.heap.size + 2) (cardB g h (msgL s) (k + 1)) w3) := by rw [HCARD.out]; exact Lib.hid hBX3
          have HB3 := Lib.hid (HBB.out.trans hB3)
          have HX3 := Lib.hid (hX3.trans HX2.out)
          have hz3' : w.heap.size + 3 ≤ w3.heap.size := by have : w2.heap.size + 1 ≤ w3.heap.size := by simpa using hz3
                                                           omega
          clear hBX3 hB3 hX3 hz3
          go_wp2_with fail
          go_roundw
          case rel => exact ⟨k + 1, by go_num, by rw [HV2.out], by omega, HK3, HB3, HX3, hz3'⟩
          case measure => simp [intOf]; omega
      · rw [e] at hc hnext
        replace hc : wr.cell? ⟨w.heap.size + 1 + 1, k, none⟩ = some (.int .u8 49) := hc
        replace hnext : v2 = 2 * v % 16 + 1 := hnext
        have HNEXT := Lib.hid hnext
        clear hnext e
        go_wp2_with fail
        rw [HAND.out, HOR.out.2, ← HNEXT.out]
        refine (out_c hg hh hv16 _).mono ?_
        rintro e w2 ⟨rfl, hB2⟩
        have hz2 := hB2.size
        have HB2 : Hid (BX (w.heap.size + 1) (w.heap.size + 1) (w.heap.size + 2) (cardB g h (msgL s) k) (w2.alloc (Obj.cells #[.int .u8 (48 + (parN g v2 : Int)), .int .u8 (48 + (parN h v2 : Int))] 104))) := Lib.hid (HK.out.below ((hB2.mono (by omega)).alloc (by omega) _) (by omega) (by omega))
        have HX2 : Hid ((w2.alloc (Obj.cells #[.int .u8 (48 + (parN g v2 : Int)), .int .u8 (48 + (parN h v2 : Int))] 104)).heap[w.heap.size + 2]? = w1.heap[w.heap.size + 2]?) := by
          refine Lib.hid ?_
          rw [Lib.alloc_old w2 _ _ (by omega), hB2.block _ (by omega)]
          exact HX.out
        have HBB := Lib.hid (HB.out.trans ((hB2.mono (by omega)).alloc (by omega) (Obj.cells #[.int .u8 (48 + (parN g v2 : Int)), .int .u8 (48 + (parN h v2 : Int))] 104)))
        clear hB2
        go_wp2_with fail
        refine (WriteX_c (w.heap.size + 1) (w.heap.size + 1) (w.heap.size + 2) (cardB g h (msgL s) k) ⟨w2.heap.size, 0, none⟩ 2 [chB g v2, chB h v2] _ HB2.out (by simp; omega) (by simp) ?_ ?_ ?_ (by simp; omega)).mono ?_
        · intro j u hj
          match j, hj with
          | 0, hj => simp [Lib.byteCells, chB_nat] at hj; subst hj; exact (new2 _ _ _ _).1
          | 1, hj => simp [Lib.byteCells, chB_nat] at hj; subst hj; exact (new2 _ _ _ _).2
          | j + 2, hj => simp [Lib.byteCells] at hj
        · intro j
          have : ((⟨w2.heap.size, 0, none⟩ : Addr).add j).block = w2.heap.size := by unfold Addr.add; split <;> rfl
          rw [this]; omega
        · rw [card_len]; simp; omega
        · rintro e w3 ⟨rfl, hBX3, hB3, hX3, hz3⟩
          have HK3 : Hid (BX (w.heap.size + 1) (w.heap.size + 1) (w.heap.size + 2) (cardB g h (msgL s) (k + 1)) w3) := by rw [HCARD.out]; exact Lib.hid hBX3
          have HB3 := Lib.hid (HBB.out.trans hB3)
          have HX3 := Lib.hid (hX3.trans HX2.out)
          have hz3' : w.heap.size + 3 ≤ w3.heap.size := by have : w2.heap.size + 1 ≤ w3.heap.size := by simpa using hz3
                                                           omega
          clear hBX3 hB3 hX3 hz3
          go_wp2_with fail
          go_roundw
          case rel => exact ⟨k + 1, by go_num, by rw [HV2.out], by omega, HK3, HB3, HX3, hz3'⟩
          case measure => simp [intOf]; omega
    · obtain rfl : k = s.size + 3 := by omega
      go_wp2_with fail
      refine (Builder_String_any _ _ _ _ HK.out.is (by omega)).mono ?_
      rintro e w2 ⟨rfl, hB2⟩
      go_wp2_with fail
      go_ret
      exact ⟨rfl, HB1.out.trans ((HB.out.trans hB2).mono (by omega))⟩
end Go.Proofs.Ytcpojohpmcnnhaa.A

set_option linter.unusedVariables false
set_option linter.unusedSimpArgs false
namespace Go.Proofs.Ytcpojohpmcnnhaa.A
open Go.RowKit Go.Proofs.YtcpojohpmcnnhaaW.PrintWords Go.Proofs.YtcpojohpmcnnhaaW.PrintLast Go.Proofs.YtcpojohpmcnnhaaW.PrintMore
open Go.Proofs.Ytcpojohpmcnnhaa.PA
def neI (a b : Int) : Int := if a = b then 0 else 1
def differI (s : ByteArray) (i : Nat) (a b : Int) : Int := neI (bt s i) a + neI (bt s ((i : Int) + 1)) b
set_option maxHeartbeats 4000000 in
set_option maxRecDepth 100000 in
theorem differ_c (s : ByteArray) (i : Nat) (a b : Int) (w : World) (hi : i + 1 < s.size) (hs : s.size ≤ 1000000) :
    Calls Try.prog 79 #[.string s, .int .i64 (i : Int), .agg #[.int .u8 a, .int .u8 b]] w fun e w' => e = .returned (.int .i64 (differI s i a b)) ∧ Below w.heap.size w w' := by
  have i0 : ∀ w, (Instr.index 104 (.agg #[.int .u8 a, .int .u8 b]) (.int .i64 0)).run Try.prog w = .ok (.int .u8 a) w := fun _ => by kernel_rfl
  have i1 : ∀ w, (Instr.index 104 (.agg #[.int .u8 a, .int .u8 b]) (.int .i64 1)).run Try.prog w = .ok (.int .u8 b) w := fun _ => by kernel_rfl
  have hi0 : (i : Int) < s.size := by omega
  have hi1 : (i : Int) + 1 < s.size := by omega
  have hi2 : (0 : Int) ≤ (i : Int) + 1 := by omega
  have hB : Below w.heap.size w (w.alloc (Obj.cells #[.int .u8 a, .int .u8 b] 104)) := (Below.refl _ _).alloc (Nat.le_refl _) _
  have HB := Lib.hid hB
  have b0 : bt s (i : Int) = (s[i].toNat : Int) := by unfold bt; rw [dif_pos (show (i : Int).toNat < s.size by omega)]; rfl
  have b1 : bt s ((i : Int) + 1) = (s[i + 1].toNat : Int) := by unfold bt; rw [dif_pos (show ((i : Int) + 1).toNat < s.size by omega)]; rfl
  have hd : differI s i a b = neI (s[i].toNat : Int) a + neI (s[i + 1].toNat : Int) b := by unfold differI; rw [b0, b1]
  have HD := Lib.hid hd
  clear hB b0 b1 hd
  by_cases hx : (s[i].toNat : Int) = a <;> by_cases hy : (s[i + 1].toNat : Int) = b
  all_goals
    have hxx : ((s[i].toNat : Int) != a) = (neI (s[i].toNat : Int) a != 0) := by unfold neI; simp [hx]
    have hyy : ((s[i + 1].toNat : Int) != b) = (neI (s[i + 1].toNat : Int) b != 0) := by unfold neI; simp [hy]
    have hx2 : neI (s[i].toNat : Int) a = if (s[i].toNat : Int) = a then 0 else 1 := rfl
    have hy2 : neI (s[i + 1].toNat : Int) b = if (s[i + 1].toNat : Int) = b then 0 else 1 := rfl
    first | rw [if_pos hx] at hx2 | rw [if_neg hx] at hx2
    first | rw [if_pos hy] at hy2 | rw [if_neg hy] at hy2
    rw [hx2] at hxx
    rw [hy2] at hyy
    have HX := Lib.hid hx2
    have HY := Lib.hid hy2
    simp only [show ((0 : Int) != 0) = false from rfl, show ((1 : Int) != 0) = true from rfl] at hxx hyy
    clear hx hy hx2 hy2
    go_enter Try.func79, Try.ntmps79
    go_wp2_with fail
    refine wp_loop_rounds 3 ?_
    rw [rounds_succ]
    go_wp2_with fail
    rw [rounds_succ]
    go_wp2_with fail
    rw [rounds_succ]
    go_wp2_with fail
    go_ret
    exact ⟨by rw [HD.out, HX.out, HY.out]; rfl, HB.out⟩
end Go.Proofs.Ytcpojohpmcnnhaa.A

set_option linter.unusedVariables false
set_option linter.unusedSimpArgs false
namespace Go.Proofs.Ytcpojohpmcnnhaa.A
open Go.RowKit Go.Proofs.YtcpojohpmcnnhaaW.PrintWords Go.Proofs.YtcpojohpmcnnhaaW.PrintLast Go.Proofs.YtcpojohpmcnnhaaW.PrintMore
open Go.Proofs.Ytcpojohpmcnnhaa.PA
def arr8 (xs : List Int) : Array Value := #[.int .i64 (xs.getD 0 0), .int .i64 (xs.getD 1 0), .int .i64 (xs.getD 2 0), .int .i64 (xs.getD 3 0), .int .i64 (xs.getD 4 0), .int .i64 (xs.getD 5 0), .int .i64 (xs.getD 6 0), .int .i64 (xs.getD 7 0)]
def stepI (g h : Nat) (s : ByteArray) (i v : Nat) : Int := differI s i (48 + (parN g v : Int)) (48 + (parN h v : Int))
def backC (g h : Nat) (s : ByteArray) (xs : List Int) (i : Nat) (last : Bool) (t : Nat) : Nat → Int
  | 0 => 1048576
  | c + 1 => if last = true ∧ c = 1 then backC g h s xs i last t c else min (backC g h s xs i last t c) (stepI g h s i (2 * t + c) + xs.getD ((2 * t + c) % 8) 0)
def backK (g h : Nat) (s : ByteArray) (xs : List Int) (i : Nat) (last : Bool) (k : Nat) : List Int := (List.range 8).map (fun t => if t < k then backC g h s xs i last t 2 else 0)
theorem differ_bd (s : ByteArray) (i : Nat) (a b : Int) : 0 ≤ differI s i a b ∧ differI s i a b ≤ 2 := by
  unfold differI neI
  split <;> split <;> omega
theorem backC_bd {g h : Nat} {s : ByteArray} {xs : List Int} {i : Nat} {last : Bool} {t : Nat} (hx : ∀ j, 0 ≤ xs.getD j 0) : ∀ c, 0 ≤ backC g h s xs i last t c ∧ backC g h s xs i last t c ≤ 1048576
  | 0 => by simp [backC]
  | c + 1 => by
    have ih := backC_bd (g := g) (h := h) (s := s) (i := i) (last := last) (t := t) hx c
    have hd := differ_bd s i (48 + (parN g (2 * t + c) : Int)) (48 + (parN h (2 * t + c) : Int))
    have h8 := hx ((2 * t + c) % 8)
    unfold backC
    split
    · exact ih
    · unfold stepI; omega
theorem arr_cell {w : World} {b : Nat} {xs : List Int} {T : TypeId} (h : w.heap[b]? = some (.cells (arr8 xs) T (0, 0))) {k : Nat} (hk : k < 8) : w.cell? ⟨b, k, none⟩ = some (.int .i64 (xs.getD k 0)) := by
  unfold World.cell?
  simp only
  rw [h]
  match k, hk with
  | 0, _ => rfl
  | 1, _ => rfl
  | 2, _ => rfl
  | 3, _ => rfl
  | 4, _ => rfl
  | 5, _ => rfl
  | 6, _ => rfl
  | 7, _ => rfl
  | k + 8, h => omega
theorem arr_frozen {w : World} {b : Nat} {xs : List Int} {T : TypeId} (h : w.heap[b]? = some (.cells (arr8 xs) T (0, 0))) (k : Nat) : w.frozen? ⟨b, k, none⟩ = false := Lib.frozen_of_heap h k
theorem arr_set {w : World} {b : Nat} {xs : List Int} {T : TypeId} (h : w.heap[b]? = some (.cells (arr8 xs) T (0, 0))) (hl : xs.length = 8) {k : Nat} (hk : k < 8) (v : Int) :
    (w.setCell ⟨b, k, none⟩ (.int .i64 v)).heap[b]? = some (.cells (arr8 (xs.set k v)) T (0, 0)) := by
  have e : (w.setCell ⟨b, k, none⟩ (.int .i64 v)).heap[b]? = some (.cells ((arr8 xs).setIfInBounds k (.int .i64 v)) T (0, 0)) := by
    simp [World.setCell, Array.getElem?_modify, h]
  rw [e]
  match xs, hl with
  | [a0, a1, a2, a3, a4, a5, a6, a7], _ =>
    match k, hk with
    | 0, _ => rfl
    | 1, _ => rfl
    | 2, _ => rfl
    | 3, _ => rfl
    | 4, _ => rfl
    | 5, _ => rfl
    | 6, _ => rfl
    | 7, _ => rfl
    | k + 8, h => omega
theorem heap4 (w : World) (o0 o1 o2 o3 : Obj) : ((((w.alloc o0).alloc o1).alloc o2).alloc o3).heap[w.heap.size]? = some o0 ∧ ((((w.alloc o0).alloc o1).alloc o2).alloc o3).heap[w.heap.size + 1]? = some o1 ∧ ((((w.alloc o0).alloc o1).alloc o2).alloc o3).heap[w.heap.size + 2]? = some o2 ∧ ((((w.alloc o0).alloc o1).alloc o2).alloc o3).heap[w.heap.size + 3]? = some o3 := by
  have e : ((((w.alloc o0).alloc o1).alloc o2).alloc o3).heap = (((w.heap.push o0).push o1).push o2).push o3 := rfl
  rw [e]
  have s1 : (w.heap.push o0).size = w.heap.size + 1 := by simp
  have s2 : ((w.heap.push o0).push o1).size = w.heap.size + 2 := by simp
  have s3 : (((w.heap.push o0).push o1).push o2).size = w.heap.size + 3 := by simp
  refine ⟨?_, ?_, ?_, ?_⟩
  · rw [Array.getElem?_push, if_neg (by omega), Array.getElem?_push, if_neg (by omega), Array.getElem?_push, if_neg (by omega), Array.getElem?_push, if_pos rfl]
  · rw [Array.getElem?_push, if_neg (by omega), Array.getElem?_push, if_neg (by omega), Array.getElem?_push, if_pos (by omega)]
  · rw [Array.getElem?_push, if_neg (by omega), Array.getElem?_push, if_pos (by omega)]
  · rw [Array.getElem?_push, if_pos (by omega)]
theorem getD_set_self' {xs : List Int} {k : Nat} (h : k < xs.length) {x d : Int} : (xs.set k x).getD k d = x := by simp [List.getD_eq_getElem?_getD, h]
theorem backK_succ {g h : Nat} {s : ByteArray} {xs : List Int} {i : Nat} {last : Bool} {k : Nat} (hk : k < 8) : backK g h s xs i last (k + 1) = (backK g h s xs i last k).set k (backC g h s xs i last k 2) := by
  apply List.ext_getElem?
  intro j
  unfold backK
  rw [List.getElem?_set]
  simp only [List.getElem?_map, List.length_map, List.length_range]
  by_cases hj : j < 8
  · rw [List.getElem?_range hj]
    by_cases e : k = j
    · subst e; simp [hk]
    · rw [if_neg e]
      simp only [Option.map_some]
      by_cases h1 : j < k
      · rw [if_pos h1, if_pos (by omega)]
      · rw [if_neg h1, if_neg (by omega)]
  · rw [if_neg (by omega), List.getElem?_eq_none (by simp; omega)]; rfl
theorem arr_stored {W : World} {b : Nat} {T : TypeId} (h : W.heap[b]? = some (.cells #[.int .i64 0, .int .i64 0, .int .i64 0, .int .i64 0, .int .i64 0, .int .i64 0, .int .i64 0, .int .i64 0] T (0, 0))) (o : List Int) : ((((((((W.setCell ⟨b, 0, none⟩ (.int .i64 (o[0]?.getD 0))).setCell ⟨b, 1, none⟩ (.int .i64 (o[1]?.getD 0))).setCell ⟨b, 2, none⟩ (.int .i64 (o[2]?.getD 0))).setCell ⟨b, 3, none⟩ (.int .i64 (o[3]?.getD 0))).setCell ⟨b, 4, none⟩ (.int .i64 (o[4]?.getD 0))).setCell ⟨b, 5, none⟩ (.int .i64 (o[5]?.getD 0))).setCell ⟨b, 6, none⟩ (.int .i64 (o[6]?.getD 0))).setCell ⟨b, 7, none⟩ (.int .i64 (o[7]?.getD 0))).heap[b]? = some (.cells (arr8 o) T (0, 0)) := by
  simp [World.setCell, Array.getElem?_modify, h, arr8]
theorem or_tab2 : ∀ v : Fin 8, bits BinOp.or IntKind.i64 ((v.val : Int) * 2) 0 = ((2 * v.val + 0 : Nat) : Int) ∧ bits BinOp.or IntKind.i64 ((v.val : Int) * 2) 1 = ((2 * v.val + 1 : Nat) : Int) := by decide +kernel
theorem and7_tab : ∀ v : Fin 16, bits BinOp.and IntKind.i64 (v.val : Int) 7 = ((v.val % 8 : Nat) : Int) := by decide +kernel
set_option maxHeartbeats 8000000 in
set_option maxRecDepth 100000 in
theorem back_c (g h : Nat) (x0 x1 x2 x3 x4 x5 x6 x7 : Int) (s : ByteArray) (i : Nat) (last : Bool) (w : World) (hg : g < 16) (hh : h < 16) (hi : i + 1 < s.size) (hs : s.size ≤ 1000000) (hx : ∀ j, 0 ≤ [x0, x1, x2, x3, x4, x5, x6, x7].getD j 0 ∧ [x0, x1, x2, x3, x4, x5, x6, x7].getD j 0 ≤ 1048576) :
    Calls Try.prog 78 #[.agg #[.int .i64 (g : Int), .int .i64 (h : Int)], .agg #[.int .i64 x0, .int .i64 x1, .int .i64 x2, .int .i64 x3, .int .i64 x4, .int .i64 x5, .int .i64 x6, .int .i64 x7], .string s, .int .i64 (i : Int), .bool last] w fun e w' => e = .returned (.agg (arr8 (backK g h s [x0, x1, x2, x3, x4, x5, x6, x7] i last 8))) ∧ Below w.heap.size w w' := by
  obtain ⟨xs, hxs⟩ : ∃ xs, [x0, x1, x2, x3, x4, x5, x6, x7] = xs := ⟨_, rfl⟩
  have hxl : xs.length = 8 := by rw [← hxs]; rfl
  obtain ⟨w1, hw1⟩ : ∃ w1, (((w.alloc (Obj.cells #[.int .i64 (g : Int), .int .i64 (h : Int)] 77)).alloc (Obj.cells #[.int .i64 x0, .int .i64 x1, .int .i64 x2, .int .i64 x3, .int .i64 x4, .int .i64 x5, .int .i64 x6, .int .i64 x7] 108)).alloc (Obj.cells #[.int .i64 0, .int .i64 0, .int .i64 0, .int .i64 0, .int .i64 0, .int .i64 0, .int .i64 0, .int .i64 0] 108)).alloc (Obj.cells #[.int .i64 0, .int .i64 0, .int .i64 0, .int .i64 0, .int .i64 0, .int .i64 0, .int .i64 0, .int .i64 0] 108) = w1 := ⟨_, rfl⟩
  have hz1 : w1.heap.size = w.heap.size + 4 := by rw [← hw1]; simp
  have hB1 : Below w.heap.size w w1 := by rw [← hw1]; exact ((((Below.refl _ _).alloc (Nat.le_refl _) _).alloc (by simp) _).alloc (by simp; omega) _).alloc (by simp; omega) _
  obtain ⟨h0, h1, h2, h3⟩ : w1.heap[w.heap.size]? = some (.cells #[.int .i64 (g : Int), .int .i64 (h : Int)] 77 (0, 0)) ∧ w1.heap[w.heap.size + 1]? = some (.cells (arr8 xs) 108 (0, 0)) ∧ w1.heap[w.heap.size + 2]? = some (.cells (arr8 (backK g h s xs i last 0)) 108 (0, 0)) ∧ w1.heap[w.heap.size + 3]? = some (.cells (arr8 (backK g h s xs i last 0)) 108 (0, 0)) := by
    rw [← hw1, ← hxs]; exact heap4 _ _ _ _ _
  have HB1 := Lib.hid hB1
  have H0 := Lib.hid h0
  have H1 := Lib.hid h1
  have H2 := Lib.hid h2
  have H3 := Lib.hid h3
  have HX := Lib.hid (fun j => (hxs ▸ hx j : 0 ≤ xs.getD j 0 ∧ xs.getD j 0 ≤ 1048576))
  have HXS := Lib.hid hxs
  have HXL := Lib.hid hxl
  clear hB1 h0 h1 h2 h3 hx hxs hxl
  go_enter Try.func78, Try.ntmps78
  go_wp2_with fail
  clear hw1
  go_loopw [15] (fun v15 wr => ∃ k : Nat, v15 = .int .i64 (k : Int) ∧ k ≤ 8 ∧ Hid (wr.heap[w.heap.size + 3]? = some (.cells (arr8 (backK g h s xs i last k)) 108 (0, 0))) ∧ Hid (R.Keeps [w.heap.size + 3] w1 wr)) (fun v15 _ => 8 - (intOf v15).toNat)
  case atStart => exact ⟨0, rfl, Nat.zero_le _, H3, Lib.hid (R.Keeps.refl _ _)⟩
  case round =>
    rename World => wa
    obtain ⟨k, rfl, hk, HA, HK⟩ := hrel
    by_cases hlt : k < 8
    · have hlt' : (k : Int) < 8 := by omega
      have hk0 : (0 : Int) ≤ (k : Int) := by omega
      have f3 : wa.frozen? ⟨w.heap.size + 1 + 1 + 1, k, none⟩ = false := arr_frozen HA.out k
      have c3 : wa.cell? ⟨w.heap.size + 1 + 1 + 1, k, none⟩ = some (.int .i64 ((backK g h s xs i last k).getD k 0)) := arr_cell HA.out hlt
      go_wp2_with fail
      go_loopw [20] (fun v20 wi => ∃ c : Nat, v20 = .int .i64 (c : Int) ∧ c ≤ 2 ∧ Hid (wi.heap[w.heap.size + 3]? = some (.cells (arr8 ((backK g h s xs i last k).set k (backC g h s xs i last k c))) 108 (0, 0))) ∧ Hid (R.Keeps [w.heap.size + 3] w1 wi)) (fun v20 _ => 2 - (intOf v20).toNat)
      case atStart => exact ⟨0, rfl, Nat.zero_le _, Lib.hid (arr_set HA.out (by simp [backK]) hlt _), Lib.hid (HK.out.setCell (fun _ => by simp) _)⟩
      case round =>
        rename World => wi
        obtain ⟨c, rfl, hc, HAi, HKi⟩ := hrel
        by_cases hc2 : c < 2
        · have y0 : wi.cell? ⟨w.heap.size, 0, none⟩ = some (.int .i64 (g : Int)) := HKi.out.cell (a := ⟨w.heap.size, 0, none⟩) (by simp [World.cell?, H0.out]) (by simp)
          have y1 : wi.cell? ⟨w.heap.size, 1, none⟩ = some (.int .i64 (h : Int)) := HKi.out.cell (a := ⟨w.heap.size, 1, none⟩) (by simp [World.cell?, H0.out]) (by simp)
          obtain ⟨v, hv⟩ : ∃ v, 2 * k + c = v := ⟨_, rfl⟩
          obtain ⟨m, hm⟩ : ∃ m, v % 8 = m := ⟨_, rfl⟩
          have hm8 : m < 8 := by omega
          have hv16 : v < 16 := by omega
          have yx : wi.cell? ⟨w.heap.size + 1, m, none⟩ = some (.int .i64 (xs.getD m 0)) := HKi.out.cell (a := ⟨w.heap.size + 1, m, none⟩) (arr_cell H1.out hm8) (by simp)
          have yo : wi.cell? ⟨w.heap.size + 1 + 1 + 1, k, none⟩ = some (.int .i64 (backC g h s xs i last k c)) := by
            have := arr_cell HAi.out hlt
            rwa [getD_set_self' (by simp [backK]; omega)] at this
          have hand := and7_tab ⟨v, hv16⟩
          have hor := or_tab2 ⟨k, hlt⟩
          have HAND : Hid (bits BinOp.and IntKind.i64 (v : Int) 7 = (m : Int)) := by rw [← hm]; exact Lib.hid hand
          have HOR : Hid (bits BinOp.or IntKind.i64 ((k : Int) * 2) 0 = ((2 * k + 0 : Nat) : Int) ∧ bits BinOp.or IntKind.i64 ((k : Int) * 2) 1 = ((2 * k + 1 : Nat) : Int)) := Lib.hid hor
          have hxm := HX.out m
          have hcur := backC_bd (g := g) (h := h) (s := s) (xs := xs) (i := i) (last := last) (t := k) (fun j => (HX.out j).1) c
          have hdb := differ_bd s i (48 + (parN g v : Int)) (48 + (parN h v : Int))
          obtain ⟨d, hd⟩ : ∃ d, stepI g h s i v = d := ⟨_, rfl⟩
          obtain ⟨y, hy⟩ : ∃ y, xs.getD m 0 = y := ⟨_, rfl⟩
          obtain ⟨cur, hcu⟩ : ∃ cur, backC g h s xs i last k c = cur := ⟨_, rfl⟩
          have hd' : differI s i (48 + (parN g v : Int)) (48 + (parN h v : Int)) = d := hd
          rw [hd'] at hdb
          rw [hy] at hxm yx
          rw [hcu] at hcur yo
          have hnew : last = false ∨ c = 0 → backC g h s xs i last k (c + 1) = min cur (d + y) := fun hl => by
            unfold backC
            rw [if_neg (by rcases hl with hl | hl <;> simp [hl]), hcu, hv, hm, hd, hy]
          have hskip : last = true → c = 1 → backC g h s xs i last k (c + 1) = cur := fun h1 h2 => by
            unfold backC
            rw [if_pos ⟨h1, h2⟩, hcu]
          have HNEW := Lib.hid hnew
          have HSKIP := Lib.hid hskip
          have HV := Lib.hid hv
          have HCU := Lib.hid hcu
          have HD := Lib.hid hd'
          clear hand hor hd hd' hy hcu hv hm hnew hskip
          obtain rfl | rfl : c = 0 ∨ c = 1 := by omega
          · cases last
            · have hwr : IntKind.i64.wrap (d + y) = d + y := IntWalk.i64_in _ (by omega)
              have HWR := Lib.hid hwr
              clear hwr
              go_wp2_with fail
              rw [HOR.out.1, HV.out]
              have CE : Hid (∀ w', R.Keeps [] wi w' → w'.cell? ⟨w.heap.size, 0, none⟩ = some (.int .i64 (g : Int)) ∧ w'.cell? ⟨w.heap.size, 1, none⟩ = some (.int .i64 (h : Int)) ∧ w'.cell? ⟨w.heap.size + 1, m, none⟩ = some (.int .i64 y) ∧ w'.cell? ⟨w.heap.size + 1 + 1 + 1, k, none⟩ = some (.int .i64 cur)) :=
                Lib.hid (fun w' h => ⟨h.cell y0 (by simp), h.cell y1 (by simp), h.cell yx (by simp), h.cell yo (by simp)⟩)
              clear y0 y1 yx yo
              have hm0 : (0 : Int) ≤ (m : Int) := by omega
              have hm8' : (m : Int) < 8 := by omega
              apply R.wp_region_text [0, 1, 2, 3, 4, 5, 6, 7, 10, 11, 12, 13] [8, 9, 14, 15, 16, 17] 16 (R.Keeps [] wi)
              case hm => kernel_rfl
              case hB => kernel_rfl
              case hd => rfl
              case hQ => exact fun _ _ _ _ _ h => h
              case hS => exact (R.Keeps.refl _ _).drew
              case hF =>
                intro w' hS
                obtain ⟨y0, y1, yx, yo⟩ := CE.out w' hS
                have ha := HAND.out
                clear hS
                simp only [R.pickC, List.filterMap_cons, List.getElem?_toArray, List.getElem?_cons_zero, List.getElem?_cons_succ, List.filterMap_nil]
                (with_reducible refine R.wpStill_plain rfl (fun K hK => ?_)); go_simp; with_reducible refine hK _ ?_; clear hK K
                (with_reducible refine R.wpStill_plain rfl (fun K hK => ?_)); go_simp; with_reducible refine hK _ ?_; clear hK K
                (with_reducible refine R.wpStill_plain rfl (fun K hK => ?_)); go_simp; with_reducible refine hK _ ?_; clear hK K
                (with_reducible refine R.wpStill_plain rfl (fun K hK => ?_)); go_simp; with_reducible refine hK _ ?_; clear hK K
                (with_reducible refine R.wpStill_plain rfl (fun K hK => ?_)); go_simp; with_reducible refine hK _ ?_; clear hK K
                (with_reducible refine R.wpStill_plain rfl (fun K hK => ?_)); go_simp; with_reducible refine hK _ ?_; clear hK K
                (with_reducible refine R.wpStill_plain rfl (fun K hK => ?_)); go_simp; with_reducible refine hK _ ?_; clear hK K
                (with_reducible refine R.wpStill_plain rfl (fun K hK => ?_)); go_simp; with_reducible refine hK _ ?_; clear hK K
                (with_reducible refine R.wpStill_plain rfl (fun K hK => ?_)); go_simp; with_reducible refine hK _ ?_; clear hK K
                (with_reducible refine R.wpStill_plain rfl (fun K hK => ?_)); go_simp; with_reducible refine hK _ ?_; clear hK K
                (with_reducible refine R.wpStill_plain rfl (fun K hK => ?_)); go_simp; with_reducible refine hK _ ?_; clear hK K
                (with_reducible refine R.wpStill_plain rfl (fun K hK => ?_)); go_simp; with_reducible refine hK _ ?_; clear hK K
                exact wpStill_nil rfl
              case hC =>
                simp only [R.chainOf, List.getElem?_toArray, List.getElem?_cons_zero, List.getElem?_cons_succ, Nat.reduceBNe, Bool.and_true, Bool.and_false, Bool.false_and]
                refine R.wpSeq_same (fun K hK => ?_)
                go_simp
                refine (out_c hg hh hv16 _).mono ?_
                rintro e w2 ⟨rfl, hB2⟩
                have hK2 : R.Keeps [] wi w2 := ((R.Keeps.refl [] _).drew).trans (R.Keeps.of_below [] hB2) (fun k hk => by simp at hk)
                refine hK _ _ hK2 ?_
                clear hK K
                refine R.wpSeq_same (fun K hK => ?_)
                go_simp
                refine (differ_c s i _ _ _ hi hs).mono ?_
                rintro e w3 ⟨rfl, hB3⟩
                rw [HD.out]
                have hK3 : R.Keeps [] wi w3 := hK2.trans (R.Keeps.of_below [] hB3) (fun k hk => by simp at hk)
                refine hK _ _ hK3 ?_
                clear hK K
                have HK3 := Lib.hid hK3
                clear hB2 hB3 hK2 hK3
                refine R.wpSeq_same (fun K hK => ?_)
                have hwr := HWR.out
                go_simp
                clear hwr
                with_reducible refine hK _ _ HK3.out ?_
                clear hK K
                refine R.wpSeq_same (fun K hK => ?_)
                go_simp
                with_reducible refine hK _ _ HK3.out ?_
                clear hK K
                have hsz3 := HK3.out.size
                have hszi := HKi.out.size
                have HA3 : Hid (w3.heap[w.heap.size + 3]? = some (.cells (arr8 ((backK g h s xs i false k).set k cur)) 108 (0, 0))) := by
                  rw [← HCU.out]; exact Lib.hid ((HK3.out.block _ (by omega) (by simp)).trans HAi.out)
                have ff : w3.frozen? ⟨w.heap.size + 1 + 1 + 1, k, none⟩ = false := arr_frozen HA3.out k
                have cc : w3.cell? ⟨w.heap.size + 1 + 1 + 1, k, none⟩ = some (.int .i64 cur) := by
                  have := arr_cell HA3.out hlt
                  rwa [getD_set_self' (by simp [backK]; omega)] at this
                refine R.wpSeq_tail _ rfl ?_
                simp only [List.map_cons, List.map_nil]
                go_wp2_with fail
                refine ⟨⟨1, rfl, by omega, ?_, ?_⟩, by simp [intOf]⟩
                · rw [HNEW.out (by simp)]
                  have h9 := arr_set HA3.out (by simp [backK]) hlt (min cur (d + y))
                  rw [List.set_set] at h9
                  exact Lib.hid h9
                · exact Lib.hid ((HKi.out.trans HK3.out (fun k hk => by simp at hk)).setCell (fun _ => by simp) _)
            · have hwr : IntKind.i64.wrap (d + y) = d + y := IntWalk.i64_in _ (by omega)
              have HWR := Lib.hid hwr
              clear hwr
              go_wp2_with fail
              rw [HOR.out.1, HV.out]
              have CE : Hid (∀ w', R.Keeps [] wi w' → w'.cell? ⟨w.heap.size, 0, none⟩ = some (.int .i64 (g : Int)) ∧ w'.cell? ⟨w.heap.size, 1, none⟩ = some (.int .i64 (h : Int)) ∧ w'.cell? ⟨w.heap.size + 1, m, none⟩ = some (.int .i64 y) ∧ w'.cell? ⟨w.heap.size + 1 + 1 + 1, k, none⟩ = some (.int .i64 cur)) :=
                Lib.hid (fun w' h => ⟨h.cell y0 (by simp), h.cell y1 (by simp), h.cell yx (by simp), h.cell yo (by simp)⟩)
              clear y0 y1 yx yo
              have hm0 : (0 : Int) ≤ (m : Int) := by omega
              have hm8' : (m : Int) < 8 := by omega
              apply R.wp_region_text [0, 1, 2, 3, 4, 5, 6, 7, 10, 11, 12, 13] [8, 9, 14, 15, 16, 17] 16 (R.Keeps [] wi)
              case hm => kernel_rfl
              case hB => kernel_rfl
              case hd => rfl
              case hQ => exact fun _ _ _ _ _ h => h
              case hS => exact (R.Keeps.refl _ _).drew
              case hF =>
                intro w' hS
                obtain ⟨y0, y1, yx, yo⟩ := CE.out w' hS
                have ha := HAND.out
                clear hS
                simp only [R.pickC, List.filterMap_cons, List.getElem?_toArray, List.getElem?_cons_zero, List.getElem?_cons_succ, List.filterMap_nil]
                (with_reducible refine R.wpStill_plain rfl (fun K hK => ?_)); go_simp; with_reducible refine hK _ ?_; clear hK K
                (with_reducible refine R.wpStill_plain rfl (fun K hK => ?_)); go_simp; with_reducible refine hK _ ?_; clear hK K
                (with_reducible refine R.wpStill_plain rfl (fun K hK => ?_)); go_simp; with_reducible refine hK _ ?_; clear hK K
                (with_reducible refine R.wpStill_plain rfl (fun K hK => ?_)); go_simp; with_reducible refine hK _ ?_; clear hK K
                (with_reducible refine R.wpStill_plain rfl (fun K hK => ?_)); go_simp; with_reducible refine hK _ ?_; clear hK K
                (with_reducible refine R.wpStill_plain rfl (fun K hK => ?_)); go_simp; with_reducible refine hK _ ?_; clear hK K
                (with_reducible refine R.wpStill_plain rfl (fun K hK => ?_)); go_simp; with_reducible refine hK _ ?_; clear hK K
                (with_reducible refine R.wpStill_plain rfl (fun K hK => ?_)); go_simp; with_reducible refine hK _ ?_; clear hK K
                (with_reducible refine R.wpStill_plain rfl (fun K hK => ?_)); go_simp; with_reducible refine hK _ ?_; clear hK K
                (with_reducible refine R.wpStill_plain rfl (fun K hK => ?_)); go_simp; with_reducible refine hK _ ?_; clear hK K
                (with_reducible refine R.wpStill_plain rfl (fun K hK => ?_)); go_simp; with_reducible refine hK _ ?_; clear hK K
                (with_reducible refine R.wpStill_plain rfl (fun K hK => ?_)); go_simp; with_reducible refine hK _ ?_; clear hK K
                exact wpStill_nil rfl
              case hC =>
                simp only [R.chainOf, List.getElem?_toArray, List.getElem?_cons_zero, List.getElem?_cons_succ, Nat.reduceBNe, Bool.and_true, Bool.and_false, Bool.false_and]
                refine R.wpSeq_same (fun K hK => ?_)
                go_simp
                refine (out_c hg hh hv16 _).mono ?_
                rintro e w2 ⟨rfl, hB2⟩
                have hK2 : R.Keeps [] wi w2 := ((R.Keeps.refl [] _).drew).trans (R.Keeps.of_below [] hB2) (fun k hk => by simp at hk)
                refine hK _ _ hK2 ?_
                clear hK K
                refine R.wpSeq_same (fun K hK => ?_)
                go_simp
                refine (differ_c s i _ _ _ hi hs).mono ?_
                rintro e w3 ⟨rfl, hB3⟩
                rw [HD.out]
                have hK3 : R.Keeps [] wi w3 := hK2.trans (R.Keeps.of_below [] hB3) (fun k hk => by simp at hk)
                refine hK _ _ hK3 ?_
                clear hK K
                have HK3 := Lib.hid hK3
                clear hB2 hB3 hK2 hK3
                refine R.wpSeq_same (fun K hK => ?_)
                have hwr := HWR.out
                go_simp
                clear hwr
                with_reducible refine hK _ _ HK3.out ?_
                clear hK K
                refine R.wpSeq_same (fun K hK => ?_)
                go_simp
                with_reducible refine hK _ _ HK3.out ?_
                clear hK K
                have hsz3 := HK3.out.size
                have hszi := HKi.out.size
                have HA3 : Hid (w3.heap[w.heap.size + 3]? = some (.cells (arr8 ((backK g h s xs i true k).set k cur)) 108 (0, 0))) := by
                  rw [← HCU.out]; exact Lib.hid ((HK3.out.block _ (by omega) (by simp)).trans HAi.out)
                have ff : w3.frozen? ⟨w.heap.size + 1 + 1 + 1, k, none⟩ = false := arr_frozen HA3.out k
                have cc : w3.cell? ⟨w.heap.size + 1 + 1 + 1, k, none⟩ = some (.int .i64 cur) := by
                  have := arr_cell HA3.out hlt
                  rwa [getD_set_self' (by simp [backK]; omega)] at this
                refine R.wpSeq_tail _ rfl ?_
                simp only [List.map_cons, List.map_nil]
                go_wp2_with fail
                refine ⟨⟨1, rfl, by omega, ?_, ?_⟩, by simp [intOf]⟩
                · rw [HNEW.out (by simp)]
                  have h9 := arr_set HA3.out (by simp [backK]) hlt (min cur (d + y))
                  rw [List.set_set] at h9
                  exact Lib.hid h9
                · exact Lib.hid ((HKi.out.trans HK3.out (fun k hk => by simp at hk)).setCell (fun _ => by simp) _)
          · cases last
            · have hwr : IntKind.i64.wrap (d + y) = d + y := IntWalk.i64_in _ (by omega)
              have HWR := Lib.hid hwr
              clear hwr
              go_wp2_with fail
              rw [HOR.out.2, HV.out]
              have CE : Hid (∀ w', R.Keeps [] wi w' → w'.cell? ⟨w.heap.size, 0, none⟩ = some (.int .i64 (g : Int)) ∧ w'.cell? ⟨w.heap.size, 1, none⟩ = some (.int .i64 (h : Int)) ∧ w'.cell? ⟨w.heap.size + 1, m, none⟩ = some (.int .i64 y) ∧ w'.cell? ⟨w.heap.size + 1 + 1 + 1, k, none⟩ = some (.int .i64 cur)) :=
                Lib.hid (fun w' h => ⟨h.cell y0 (by simp), h.cell y1 (by simp), h.cell yx (by simp), h.cell yo (by simp)⟩)
              clear y0 y1 yx yo
              have hm0 : (0 : Int) ≤ (m : Int) := by omega
              have hm8' : (m : Int) < 8 := by omega
              apply R.wp_region_text [0, 1, 2, 3, 4, 5, 6, 7, 10, 11, 12, 13] [8, 9, 14, 15, 16, 17] 16 (R.Keeps [] wi)
              case hm => kernel_rfl
              case hB => kernel_rfl
              case hd => rfl
              case hQ => exact fun _ _ _ _ _ h => h
              case hS => exact (R.Keeps.refl _ _).drew
              case hF =>
                intro w' hS
                obtain ⟨y0, y1, yx, yo⟩ := CE.out w' hS
                have ha := HAND.out
                clear hS
                simp only [R.pickC, List.filterMap_cons, List.getElem?_toArray, List.getElem?_cons_zero, List.getElem?_cons_succ, List.filterMap_nil]
                (with_reducible refine R.wpStill_plain rfl (fun K hK => ?_)); go_simp; with_reducible refine hK _ ?_; clear hK K
                (with_reducible refine R.wpStill_plain rfl (fun K hK => ?_)); go_simp; with_reducible refine hK _ ?_; clear hK K
                (with_reducible refine R.wpStill_plain rfl (fun K hK => ?_)); go_simp; with_reducible refine hK _ ?_; clear hK K
                (with_reducible refine R.wpStill_plain rfl (fun K hK => ?_)); go_simp; with_reducible refine hK _ ?_; clear hK K
                (with_reducible refine R.wpStill_plain rfl (fun K hK => ?_)); go_simp; with_reducible refine hK _ ?_; clear hK K
                (with_reducible refine R.wpStill_plain rfl (fun K hK => ?_)); go_simp; with_reducible refine hK _ ?_; clear hK K
                (with_reducible refine R.wpStill_plain rfl (fun K hK => ?_)); go_simp; with_reducible refine hK _ ?_; clear hK K
                (with_reducible refine R.wpStill_plain rfl (fun K hK => ?_)); go_simp; with_reducible refine hK _ ?_; clear hK K
                (with_reducible refine R.wpStill_plain rfl (fun K hK => ?_)); go_simp; with_reducible refine hK _ ?_; clear hK K
                (with_reducible refine R.wpStill_plain rfl (fun K hK => ?_)); go_simp; with_reducible refine hK _ ?_; clear hK K
                (with_reducible refine R.wpStill_plain rfl (fun K hK => ?_)); go_simp; with_reducible refine hK _ ?_; clear hK K
                (with_reducible refine R.wpStill_plain rfl (fun K hK => ?_)); go_simp; with_reducible refine hK _ ?_; clear hK K
                exact wpStill_nil rfl
              case hC =>
                simp only [R.chainOf, List.getElem?_toArray, List.getElem?_cons_zero, List.getElem?_cons_succ, Nat.reduceBNe, Bool.and_true, Bool.and_false, Bool.false_and]
                refine R.wpSeq_same (fun K hK => ?_)
                go_simp
                refine (out_c hg hh hv16 _).mono ?_
                rintro e w2 ⟨rfl, hB2⟩
                have hK2 : R.Keeps [] wi w2 := ((R.Keeps.refl [] _).drew).trans (R.Keeps.of_below [] hB2) (fun k hk => by simp at hk)
                refine hK _ _ hK2 ?_
                clear hK K
                refine R.wpSeq_same (fun K hK => ?_)
                go_simp
                refine (differ_c s i _ _ _ hi hs).mono ?_
                rintro e w3 ⟨rfl, hB3⟩
                rw [HD.out]
                have hK3 : R.Keeps [] wi w3 := hK2.trans (R.Keeps.of_below [] hB3) (fun k hk => by simp at hk)
                refine hK _ _ hK3 ?_
                clear hK K
                have HK3 := Lib.hid hK3
                clear hB2 hB3 hK2 hK3
                refine R.wpSeq_same (fun K hK => ?_)
                have hwr := HWR.out
                go_simp
                clear hwr
                with_reducible refine hK _ _ HK3.out ?_
                clear hK K
                refine R.wpSeq_same (fun K hK => ?_)
                go_simp
                with_reducible refine hK _ _ HK3.out ?_
                clear hK K
                have hsz3 := HK3.out.size
                have hszi := HKi.out.size
                have HA3 : Hid (w3.heap[w.heap.size + 3]? = some (.cells (arr8 ((backK g h s xs i false k).set k cur)) 108 (0, 0))) := by
                  rw [← HCU.out]; exact Lib.hid ((HK3.out.block _ (by omega) (by simp)).trans HAi.out)
                have ff : w3.frozen? ⟨w.heap.size + 1 + 1 + 1, k, none⟩ = false := arr_frozen HA3.out k
                have cc : w3.cell? ⟨w.heap.size + 1 + 1 + 1, k, none⟩ = some (.int .i64 cur) := by
                  have := arr_cell HA3.out hlt
                  rwa [getD_set_self' (by simp [backK]; omega)] at this
                refine R.wpSeq_tail _ rfl ?_
                simp only [List.map_cons, List.map_nil]
                go_wp2_with fail
                refine ⟨⟨2, rfl, by omega, ?_, ?_⟩, by simp [intOf]⟩
                · rw [HNEW.out (by simp)]
                  have h9 := arr_set HA3.out (by simp [backK]) hlt (min cur (d + y))
                  rw [List.set_set] at h9
                  exact Lib.hid h9
                · exact Lib.hid ((HKi.out.trans HK3.out (fun k hk => by simp at hk)).setCell (fun _ => by simp) _)
            · clear y0 y1 yx yo
              go_wp2_with fail
              refine ⟨⟨2, rfl, by omega, ?_, HKi⟩, by simp [intOf]⟩
              rw [HSKIP.out rfl rfl, ← HCU.out]
              exact HAi
        · obtain rfl : c = 2 := by omega
          go_wp2_with fail
          refine ⟨⟨k + 1, by go_num, by omega, ?_, HKi⟩, by simp [intOf]; omega⟩
          rw [backK_succ hlt]
          exact HAi
    · obtain rfl : k = 8 := by omega
      obtain ⟨o, ho⟩ : ∃ o, backK g h s xs i last 8 = o := ⟨_, rfl⟩
      rw [ho] at HA
      have HO := Lib.hid ho
      have HB8 := Lib.hid (HB1.out.trans (HK.out.to_below (B := w.heap.size) (by omega) (fun k hk => by simp at hk; omega)))
      have hR2 : wa.heap[w.heap.size + 2]? = some (.cells (arr8 (backK g h s xs i last 0)) 108 (0, 0)) := (HK.out.block _ (by omega) (by simp)).trans H2.out
      have hR2' : wa.heap[w.heap.size + 2]? = some (.cells #[.int .i64 0, .int .i64 0, .int .i64 0, .int .i64 0, .int .i64 0, .int .i64 0, .int .i64 0, .int .i64 0] 108 (0, 0)) := hR2
      have z0 : wa.cell? ⟨w.heap.size + 1 + 1 + 1, 0, none⟩ = some (.int .i64 (o.getD 0 0)) := arr_cell HA.out (by omega)
      have q0 : wa.cell? ⟨w.heap.size + 1 + 1, 0, none⟩ = some (.int .i64 0) := by unfold World.cell?; simp only; rw [show w.heap.size + 1 + 1 = w.heap.size + 2 from rfl, hR2']; rfl
      have f0 : wa.frozen? ⟨w.heap.size + 1 + 1, 0, none⟩ = false := Lib.frozen_of_heap hR2' 0
      have z1 : wa.cell? ⟨w.heap.size + 1 + 1 + 1, 1, none⟩ = some (.int .i64 (o.getD 1 0)) := arr_cell HA.out (by omega)
      have q1 : wa.cell? ⟨w.heap.size + 1 + 1, 1, none⟩ = some (.int .i64 0) := by unfold World.cell?; simp only; rw [show w.heap.size + 1 + 1 = w.heap.size + 2 from rfl, hR2']; rfl
      have f1 : wa.frozen? ⟨w.heap.size + 1 + 1, 1, none⟩ = false := Lib.frozen_of_heap hR2' 1
      have z2 : wa.cell? ⟨w.heap.size + 1 + 1 + 1, 2, none⟩ = some (.int .i64 (o.getD 2 0)) := arr_cell HA.out (by omega)
      have q2 : wa.cell? ⟨w.heap.size + 1 + 1, 2, none⟩ = some (.int .i64 0) := by unfold World.cell?; simp only; rw [show w.heap.size + 1 + 1 = w.heap.size + 2 from rfl, hR2']; rfl
      have f2 : wa.frozen? ⟨w.heap.size + 1 + 1, 2, none⟩ = false := Lib.frozen_of_heap hR2' 2
      have z3 : wa.cell? ⟨w.heap.size + 1 + 1 + 1, 3, none⟩ = some (.int .i64 (o.getD 3 0)) := arr_cell HA.out (by omega)
      have q3 : wa.cell? ⟨w.heap.size + 1 + 1, 3, none⟩ = some (.int .i64 0) := by unfold World.cell?; simp only; rw [show w.heap.size + 1 + 1 = w.heap.size + 2 from rfl, hR2']; rfl
      have f3 : wa.frozen? ⟨w.heap.size + 1 + 1, 3, none⟩ = false := Lib.frozen_of_heap hR2' 3
      have z4 : wa.cell? ⟨w.heap.size + 1 + 1 + 1, 4, none⟩ = some (.int .i64 (o.getD 4 0)) := arr_cell HA.out (by omega)
      have q4 : wa.cell? ⟨w.heap.size + 1 + 1, 4, none⟩ = some (.int .i64 0) := by unfold World.cell?; simp only; rw [show w.heap.size + 1 + 1 = w.heap.size + 2 from rfl, hR2']; rfl
      have f4 : wa.frozen? ⟨w.heap.size + 1 + 1, 4, none⟩ = false := Lib.frozen_of_heap hR2' 4
      have z5 : wa.cell? ⟨w.heap.size + 1 + 1 + 1, 5, none⟩ = some (.int .i64 (o.getD 5 0)) := arr_cell HA.out (by omega)
      have q5 : wa.cell? ⟨w.heap.size + 1 + 1, 5, none⟩ = some (.int .i64 0) := by unfold World.cell?; simp only; rw [show w.heap.size + 1 + 1 = w.heap.size + 2 from rfl, hR2']; rfl
      have f5 : wa.frozen? ⟨w.heap.size + 1 + 1, 5, none⟩ = false := Lib.frozen_of_heap hR2' 5
      have z6 : wa.cell? ⟨w.heap.size + 1 + 1 + 1, 6, none⟩ = some (.int .i64 (o.getD 6 0)) := arr_cell HA.out (by omega)
      have q6 : wa.cell? ⟨w.heap.size + 1 + 1, 6, none⟩ = some (.int .i64 0) := by unfold World.cell?; simp only; rw [show w.heap.size + 1 + 1 = w.heap.size + 2 from rfl, hR2']; rfl
      have f6 : wa.frozen? ⟨w.heap.size + 1 + 1, 6, none⟩ = false := Lib.frozen_of_heap hR2' 6
      have z7 : wa.cell? ⟨w.heap.size + 1 + 1 + 1, 7, none⟩ = some (.int .i64 (o.getD 7 0)) := arr_cell HA.out (by omega)
      have q7 : wa.cell? ⟨w.heap.size + 1 + 1, 7, none⟩ = some (.int .i64 0) := by unfold World.cell?; simp only; rw [show w.heap.size + 1 + 1 = w.heap.size + 2 from rfl, hR2']; rfl
      have f7 : wa.frozen? ⟨w.heap.size + 1 + 1, 7, none⟩ = false := Lib.frozen_of_heap hR2' 7
      have HZ := Lib.hid hR2'
      clear hR2 hR2' ho
      go_wp2_with fail
      have hst := arr_stored HZ.out o
      have e0 : ((((((((wa.setCell ⟨w.heap.size + 1 + 1, 0, none⟩ (.int .i64 (o[0]?.getD 0))).setCell ⟨w.heap.size + 1 + 1, 1, none⟩ (.int .i64 (o[1]?.getD 0))).setCell ⟨w.heap.size + 1 + 1, 2, none⟩ (.int .i64 (o[2]?.getD 0))).setCell ⟨w.heap.size + 1 + 1, 3, none⟩ (.int .i64 (o[3]?.getD 0))).setCell ⟨w.heap.size + 1 + 1, 4, none⟩ (.int .i64 (o[4]?.getD 0))).setCell ⟨w.heap.size + 1 + 1, 5, none⟩ (.int .i64 (o[5]?.getD 0))).setCell ⟨w.heap.size + 1 + 1, 6, none⟩ (.int .i64 (o[6]?.getD 0))).setCell ⟨w.heap.size + 1 + 1, 7, none⟩ (.int .i64 (o[7]?.getD 0))).cell? ⟨w.heap.size + 1 + 1, 0, none⟩ = some (.int .i64 (o[0]?.getD 0)) := (arr_cell hst (k := 0) (by omega)).trans (by rw [List.getD_eq_getElem?_getD])
      have e1 : ((((((((wa.setCell ⟨w.heap.size + 1 + 1, 0, none⟩ (.int .i64 (o[0]?.getD 0))).setCell ⟨w.heap.size + 1 + 1, 1, none⟩ (.int .i64 (o[1]?.getD 0))).setCell ⟨w.heap.size + 1 + 1, 2, none⟩ (.int .i64 (o[2]?.getD 0))).setCell ⟨w.heap.size + 1 + 1, 3, none⟩ (.int .i64 (o[3]?.getD 0))).setCell ⟨w.heap.size + 1 + 1, 4, none⟩ (.int .i64 (o[4]?.getD 0))).setCell ⟨w.heap.size + 1 + 1, 5, none⟩ (.int .i64 (o[5]?.getD 0))).setCell ⟨w.heap.size + 1 + 1, 6, none⟩ (.int .i64 (o[6]?.getD 0))).setCell ⟨w.heap.size + 1 + 1, 7, none⟩ (.int .i64 (o[7]?.getD 0))).cell? ⟨w.heap.size + 1 + 1, 1, none⟩ = some (.int .i64 (o[1]?.getD 0)) := (arr_cell hst (k := 1) (by omega)).trans (by rw [List.getD_eq_getElem?_getD])
      have e2 : ((((((((wa.setCell ⟨w.heap.size + 1 + 1, 0, none⟩ (.int .i64 (o[0]?.getD 0))).setCell ⟨w.heap.size + 1 + 1, 1, none⟩ (.int .i64 (o[1]?.getD 0))).setCell ⟨w.heap.size + 1 + 1, 2, none⟩ (.int .i64 (o[2]?.getD 0))).setCell ⟨w.heap.size + 1 + 1, 3, none⟩ (.int .i64 (o[3]?.getD 0))).setCell ⟨w.heap.size + 1 + 1, 4, none⟩ (.int .i64 (o[4]?.getD 0))).setCell ⟨w.heap.size + 1 + 1, 5, none⟩ (.int .i64 (o[5]?.getD 0))).setCell ⟨w.heap.size + 1 + 1, 6, none⟩ (.int .i64 (o[6]?.getD 0))).setCell ⟨w.heap.size + 1 + 1, 7, none⟩ (.int .i64 (o[7]?.getD 0))).cell? ⟨w.heap.size + 1 + 1, 2, none⟩ = some (.int .i64 (o[2]?.getD 0)) := (arr_cell hst (k := 2) (by omega)).trans (by rw [List.getD_eq_getElem?_getD])
      have e3 : ((((((((wa.setCell ⟨w.heap.size + 1 + 1, 0, none⟩ (.int .i64 (o[0]?.getD 0))).setCell ⟨w.heap.size + 1 + 1, 1, none⟩ (.int .i64 (o[1]?.getD 0))).setCell ⟨w.heap.size + 1 + 1, 2, none⟩ (.int .i64 (o[2]?.getD 0))).setCell ⟨w.heap.size + 1 + 1, 3, none⟩ (.int .i64 (o[3]?.getD 0))).setCell ⟨w.heap.size + 1 + 1, 4, none⟩ (.int .i64 (o[4]?.getD 0))).setCell ⟨w.heap.size + 1 + 1, 5, none⟩ (.int .i64 (o[5]?.getD 0))).setCell ⟨w.heap.size + 1 + 1, 6, none⟩ (.int .i64 (o[6]?.getD 0))).setCell ⟨w.heap.size + 1 + 1, 7, none⟩ (.int .i64 (o[7]?.getD 0))).cell? ⟨w.heap.size + 1 + 1, 3, none⟩ = some (.int .i64 (o[3]?.getD 0)) := (arr_cell hst (k := 3) (by omega)).trans (by rw [List.getD_eq_getElem?_getD])
      have e4 : ((((((((wa.setCell ⟨w.heap.size + 1 + 1, 0, none⟩ (.int .i64 (o[0]?.getD 0))).setCell ⟨w.heap.size + 1 + 1, 1, none⟩ (.int .i64 (o[1]?.getD 0))).setCell ⟨w.heap.size + 1 + 1, 2, none⟩ (.int .i64 (o[2]?.getD 0))).setCell ⟨w.heap.size + 1 + 1, 3, none⟩ (.int .i64 (o[3]?.getD 0))).setCell ⟨w.heap.size + 1 + 1, 4, none⟩ (.int .i64 (o[4]?.getD 0))).setCell ⟨w.heap.size + 1 + 1, 5, none⟩ (.int .i64 (o[5]?.getD 0))).setCell ⟨w.heap.size + 1 + 1, 6, none⟩ (.int .i64 (o[6]?.getD 0))).setCell ⟨w.heap.size + 1 + 1, 7, none⟩ (.int .i64 (o[7]?.getD 0))).cell? ⟨w.heap.size + 1 + 1, 4, none⟩ = some (.int .i64 (o[4]?.getD 0)) := (arr_cell hst (k := 4) (by omega)).trans (by rw [List.getD_eq_getElem?_getD])
      have e5 : ((((((((wa.setCell ⟨w.heap.size + 1 + 1, 0, none⟩ (.int .i64 (o[0]?.getD 0))).setCell ⟨w.heap.size + 1 + 1, 1, none⟩ (.int .i64 (o[1]?.getD 0))).setCell ⟨w.heap.size + 1 + 1, 2, none⟩ (.int .i64 (o[2]?.getD 0))).setCell ⟨w.heap.size + 1 + 1, 3, none⟩ (.int .i64 (o[3]?.getD 0))).setCell ⟨w.heap.size + 1 + 1, 4, none⟩ (.int .i64 (o[4]?.getD 0))).setCell ⟨w.heap.size + 1 + 1, 5, none⟩ (.int .i64 (o[5]?.getD 0))).setCell ⟨w.heap.size + 1 + 1, 6, none⟩ (.int .i64 (o[6]?.getD 0))).setCell ⟨w.heap.size + 1 + 1, 7, none⟩ (.int .i64 (o[7]?.getD 0))).cell? ⟨w.heap.size + 1 + 1, 5, none⟩ = some (.int .i64 (o[5]?.getD 0)) := (arr_cell hst (k := 5) (by omega)).trans (by rw [List.getD_eq_getElem?_getD])
      have e6 : ((((((((wa.setCell ⟨w.heap.size + 1 + 1, 0, none⟩ (.int .i64 (o[0]?.getD 0))).setCell ⟨w.heap.size + 1 + 1, 1, none⟩ (.int .i64 (o[1]?.getD 0))).setCell ⟨w.heap.size + 1 + 1, 2, none⟩ (.int .i64 (o[2]?.getD 0))).setCell ⟨w.heap.size + 1 + 1, 3, none⟩ (.int .i64 (o[3]?.getD 0))).setCell ⟨w.heap.size + 1 + 1, 4, none⟩ (.int .i64 (o[4]?.getD 0))).setCell ⟨w.heap.size + 1 + 1, 5, none⟩ (.int .i64 (o[5]?.getD 0))).setCell ⟨w.heap.size + 1 + 1, 6, none⟩ (.int .i64 (o[6]?.getD 0))).setCell ⟨w.heap.size + 1 + 1, 7, none⟩ (.int .i64 (o[7]?.getD 0))).cell? ⟨w.heap.size + 1 + 1, 6, none⟩ = some (.int .i64 (o[6]?.getD 0)) := (arr_cell hst (k := 6) (by omega)).trans (by rw [List.getD_eq_getElem?_getD])
      have e7 : ((((((((wa.setCell ⟨w.heap.size + 1 + 1, 0, none⟩ (.int .i64 (o[0]?.getD 0))).setCell ⟨w.heap.size + 1 + 1, 1, none⟩ (.int .i64 (o[1]?.getD 0))).setCell ⟨w.heap.size + 1 + 1, 2, none⟩ (.int .i64 (o[2]?.getD 0))).setCell ⟨w.heap.size + 1 + 1, 3, none⟩ (.int .i64 (o[3]?.getD 0))).setCell ⟨w.heap.size + 1 + 1, 4, none⟩ (.int .i64 (o[4]?.getD 0))).setCell ⟨w.heap.size + 1 + 1, 5, none⟩ (.int .i64 (o[5]?.getD 0))).setCell ⟨w.heap.size + 1 + 1, 6, none⟩ (.int .i64 (o[6]?.getD 0))).setCell ⟨w.heap.size + 1 + 1, 7, none⟩ (.int .i64 (o[7]?.getD 0))).cell? ⟨w.heap.size + 1 + 1, 7, none⟩ = some (.int .i64 (o[7]?.getD 0)) := (arr_cell hst (k := 7) (by omega)).trans (by rw [List.getD_eq_getElem?_getD])
      refine bodyPost_ret (v := .agg (arr8 o)) ?_ rfl ⟨by rw [HXS.out, HO.out], ?_⟩
      · simp [results, Try.results78, go_sem, e0, e1, e2, e3, e4, e5, e6, e7]
        rfl
      · exact ((((((((HB8.out).setCell (p := ⟨w.heap.size + 1 + 1, 0, none⟩) (by show _ ≤ w.heap.size + 1 + 1; omega) _).setCell (p := ⟨w.heap.size + 1 + 1, 1, none⟩) (by show _ ≤ w.heap.size + 1 + 1; omega) _).setCell (p := ⟨w.heap.size + 1 + 1, 2, none⟩) (by show _ ≤ w.heap.size + 1 + 1; omega) _).setCell (p := ⟨w.heap.size + 1 + 1, 3, none⟩) (by show _ ≤ w.heap.size + 1 + 1; omega) _).setCell (p := ⟨w.heap.size + 1 + 1, 4, none⟩) (by show _ ≤ w.heap.size + 1 + 1; omega) _).setCell (p := ⟨w.heap.size + 1 + 1, 5, none⟩) (by show _ ≤ w.heap.size + 1 + 1; omega) _).setCell (p := ⟨w.heap.size + 1 + 1, 6, none⟩) (by show _ ≤ w.heap.size + 1 + 1; omega) _).setCell (p := ⟨w.heap.size + 1 + 1, 7, none⟩) (by show _ ≤ w.heap.size + 1 + 1; omega) _
end Go.Proofs.Ytcpojohpmcnnhaa.A

set_option linter.unusedVariables false
set_option linter.unusedSimpArgs false
namespace Go.Proofs.Ytcpojohpmcnnhaa.A
open Go.RowKit Go.Proofs.YtcpojohpmcnnhaaW.PrintWords Go.Proofs.YtcpojohpmcnnhaaW.PrintLast Go.Proofs.YtcpojohpmcnnhaaW.PrintMore
open Go.Proofs.Ytcpojohpmcnnhaa.PA
def Rows8 (w : World) (b n : Nat) (L : Nat → Nat → Int) : Prop := ∃ C, w.heap[b]? = some (.cells C 108 (0, 0)) ∧ ∀ i j, i < n → j < 8 → C[i * 8 + j]? = some (.int .i64 (L i j))
theorem Rows8.cell {w : World} {b n : Nat} {L : Nat → Nat → Int} (h : Rows8 w b n L) {i j : Nat} (hi : i < n) (hj : j < 8) : w.cell? ⟨b, i * 8 + j, none⟩ = some (.int .i64 (L i j)) := by
  obtain ⟨C, h1, h2⟩ := h
  unfold World.cell?
  simp only
  rw [h1]
  exact h2 i j hi hj
theorem Rows8.frozen {w : World} {b n : Nat} {L : Nat → Nat → Int} (h : Rows8 w b n L) (k : Nat) : w.frozen? ⟨b, k, none⟩ = false := by
  obtain ⟨C, h1, _⟩ := h
  exact Lib.frozen_of_heap h1 k
theorem Rows8.set {w : World} {b n : Nat} {L : Nat → Nat → Int} (h : Rows8 w b n L) {i j : Nat} (hi : i < n) (hj : j < 8) (v : Int) : Rows8 (w.setCell ⟨b, i * 8 + j, none⟩ (.int .i64 v)) b n (fun a c => if a = i ∧ c = j then v else L a c) := by
  obtain ⟨C, h1, h2⟩ := h
  refine ⟨C.setIfInBounds (i * 8 + j) (.int .i64 v), by simp [World.setCell, Array.getElem?_modify, h1], fun a c ha hc => ?_⟩
  have hs : i * 8 + j < C.size := by
    have := h2 i j hi hj
    exact (Array.getElem?_eq_some_iff.1 this).1
  rw [Array.getElem?_setIfInBounds]
  by_cases e : a = i ∧ c = j
  · obtain ⟨rfl, rfl⟩ := e
    rw [if_pos rfl, if_pos hs]
    simp
  · rw [if_neg (by omega)]
    simp only [if_neg e]
    exact h2 a c ha hc
theorem Rows8.congr {w : World} {b n : Nat} {L M : Nat → Nat → Int} (h : Rows8 w b n L) (he : ∀ i j, i < n → j < 8 → L i j = M i j) : Rows8 w b n M := by
  obtain ⟨C, h1, h2⟩ := h
  exact ⟨C, h1, fun i j hi hj => by rw [h2 i j hi hj, he i j hi hj]⟩
theorem Rows8.move {w w' : World} {b n : Nat} {L : Nat → Nat → Int} (h : Rows8 w b n L) (he : w'.heap[b]? = w.heap[b]?) : Rows8 w' b n L := by
  obtain ⟨C, h1, h2⟩ := h
  exact ⟨C, he.trans h1, h2⟩
theorem Rows8.put {w : World} {b n : Nat} {L : Nat → Nat → Int} (h : Rows8 w b n L) {i : Nat} (hi : i < n) (o : List Int) : Rows8 ((((((((w.setCell ⟨b, i * 8 + 0, none⟩ (.int .i64 (o.getD 0 0))).setCell ⟨b, i * 8 + 1, none⟩ (.int .i64 (o.getD 1 0))).setCell ⟨b, i * 8 + 2, none⟩ (.int .i64 (o.getD 2 0))).setCell ⟨b, i * 8 + 3, none⟩ (.int .i64 (o.getD 3 0))).setCell ⟨b, i * 8 + 4, none⟩ (.int .i64 (o.getD 4 0))).setCell ⟨b, i * 8 + 5, none⟩ (.int .i64 (o.getD 5 0))).setCell ⟨b, i * 8 + 6, none⟩ (.int .i64 (o.getD 6 0))).setCell ⟨b, i * 8 + 7, none⟩ (.int .i64 (o.getD 7 0))) b n (fun a c => if a = i then o.getD c 0 else L a c) := by
  refine ((((((((h.set hi (j := 0) (by omega) _).set hi (j := 1) (by omega) _).set hi (j := 2) (by omega) _).set hi (j := 3) (by omega) _).set hi (j := 4) (by omega) _).set hi (j := 5) (by omega) _).set hi (j := 6) (by omega) _).set hi (j := 7) (by omega) _).congr (fun a c ha hc => ?_)
  by_cases e : a = i
  · subst e
    match c, hc with
    | 0, _ => simp
    | 1, _ => simp
    | 2, _ => simp
    | 3, _ => simp
    | 4, _ => simp
    | 5, _ => simp
    | 6, _ => simp
    | 7, _ => simp
    | c + 8, h => omega
  · simp [e]
theorem info108 : (Try.prog.info? 108).map (fun i => (i.zero, i.size, i.bytes)) = some (some (.agg #[.int .i64 0, .int .i64 0, .int .i64 0, .int .i64 0, .int .i64 0, .int .i64 0, .int .i64 0, .int .i64 0]), 8, 64) := by kernel_rfl
theorem make8 (m : Nat) (hm : m ≤ 1000000) (w : World) : ∃ C, (Instr.makeSlice 107 (.int .i64 (m : Int)) (.int .i64 (m : Int))).run Try.prog w = .ok (.slice (some ⟨w.heap.size, 0, none⟩) m m) (w.alloc (.cells C 108)) ∧ ∀ i j, i < m → j < 8 → C[i * 8 + j]? = some (.int .i64 0) := by
  obtain ⟨i0, hi0, hz0, hz1, hz2⟩ := info_parts info108
  have h := run_make (P := Try.prog) w 107 108 i0 (.agg #[.int .i64 0, .int .i64 0, .int .i64 0, .int .i64 0, .int .i64 0, .int .i64 0, .int .i64 0, .int .i64 0]) Try.underlying107 hi0 hz0 .i64 .i64 m m (by omega) (by omega) (by rw [hz2]; omega) (by omega)
  rw [hz1] at h
  refine ⟨_, h, fun i j hi hj => ?_⟩
  have e : (m : Int).toNat = m := by omega
  rw [e]
  have hc : (Value.agg #[.int .i64 0, .int .i64 0, .int .i64 0, .int .i64 0, .int .i64 0, .int .i64 0, .int .i64 0, .int .i64 0]).cells = #[.int .i64 0, .int .i64 0, .int .i64 0, .int .i64 0, .int .i64 0, .int .i64 0, .int .i64 0, .int .i64 0] := by simp [Value.cells]
  unfold madeCells
  rw [hc, Array.getElem?_map, Array.getElem?_range, if_pos (by omega), Option.map_some]
  have h8 : (i * 8 + j) % 8 = j := by omega
  show some ((#[.int .i64 0, .int .i64 0, .int .i64 0, .int .i64 0, .int .i64 0, .int .i64 0, .int .i64 0, .int .i64 0] : Array Value)[(i * 8 + j) % 8]!) = _
  rw [h8]
  match j, hj with
  | 0, _ => rfl
  | 1, _ => rfl
  | 2, _ => rfl
  | 3, _ => rfl
  | 4, _ => rfl
  | 5, _ => rfl
  | 6, _ => rfl
  | 7, _ => rfl
  | j + 8, h => omega
def rowD (g h : Nat) (s : ByteArray) (n : Nat) : Nat → List Int
  | 0 => [0, 0, 0, 0, 0, 0, 0, 0]
  | d + 1 => backK g h s (rowD g h s n d) (2 * (n - (d + 1))) (decide ((n : Int) - 3 ≤ ((n - (d + 1) : Nat) : Int))) 8
def rowR (g h : Nat) (s : ByteArray) (n i : Nat) : List Int := rowD g h s n (n - i)
theorem rowR_end (g h : Nat) (s : ByteArray) (n : Nat) : rowR g h s n n = [0, 0, 0, 0, 0, 0, 0, 0] := by unfold rowR; rw [Nat.sub_self]; rfl
theorem rowR_step (g h : Nat) (s : ByteArray) {n q : Nat} (hq : q < n) : rowR g h s n q = backK g h s (rowR g h s n (q + 1)) (2 * q) (decide ((n : Int) - 3 ≤ (q : Int))) 8 := by
  unfold rowR
  rw [show n - q = (n - (q + 1)) + 1 by omega, rowD, show n - (n - (q + 1) + 1) = q by omega]
theorem backK_bd {g h : Nat} {s : ByteArray} {xs : List Int} {i : Nat} {last : Bool} {k : Nat} (hx : ∀ j, 0 ≤ xs.getD j 0) (j : Nat) : 0 ≤ (backK g h s xs i last k).getD j 0 ∧ (backK g h s xs i last k).getD j 0 ≤ 1048576 := by
  unfold backK
  rw [List.getD_eq_getElem?_getD, List.getElem?_map]
  by_cases hj : j < 8
  · rw [List.getElem?_range hj]
    simp only [Option.map_some, Option.getD_some]
    split
    · exact backC_bd hx 2
    · omega
  · rw [List.getElem?_eq_none (by simp; omega)]; simp
theorem rowD_bd (g h : Nat) (s : ByteArray) (n : Nat) : ∀ d j, 0 ≤ (rowD g h s n d).getD j 0 ∧ (rowD g h s n d).getD j 0 ≤ 1048576
  | 0, j => by
    unfold rowD
    match j with
    | 0 | 1 | 2 | 3 | 4 | 5 | 6 | 7 => simp
    | j + 8 => simp
  | d + 1, j => backK_bd (fun j => (rowD_bd g h s n d j).1) j
theorem rowR_bd (g h : Nat) (s : ByteArray) (n i j : Nat) : 0 ≤ (rowR g h s n i).getD j 0 ∧ (rowR g h s n i).getD j 0 ≤ 1048576 := rowD_bd g h s n _ j
theorem rowR_len (g h : Nat) (s : ByteArray) (n i : Nat) : (rowR g h s n i).length = 8 := by
  unfold rowR
  cases n - i with
  | zero => rfl
  | succ d => simp [rowD, backK]
def bitR (g h : Nat) (s : ByteArray) (n i t : Nat) : Nat := if stepI g h s (2 * i) (2 * t) + (rowR g h s n (i + 1)).getD (2 * t % 8) 0 > (rowR g h s n i).getD t 0 then 1 else 0
def stR (g h : Nat) (s : ByteArray) (n : Nat) : Nat → Nat
  | 0 => 0
  | i + 1 => (2 * stR g h s n i + bitR g h s n i (stR g h s n i)) % 8
def msgR (g h : Nat) (s : ByteArray) (n : Nat) : Nat → List UInt8
  | 0 => []
  | i + 1 => msgR g h s n i ++ [UInt8.ofNat (48 + bitR g h s n i (stR g h s n i))]
theorem list8 {xs : List Int} (h : xs.length = 8) : [xs.getD 0 0, xs.getD 1 0, xs.getD 2 0, xs.getD 3 0, xs.getD 4 0, xs.getD 5 0, xs.getD 6 0, xs.getD 7 0] = xs := by
  match xs, h with
  | [_, _, _, _, _, _, _, _], _ => rfl
theorem msgR_len (g h : Nat) (s : ByteArray) (n : Nat) : ∀ i, (msgR g h s n i).length = i
  | 0 => rfl
  | i + 1 => by simp [msgR, msgR_len g h s n i]
theorem is_below {B b : Nat} {bs : List Value} {w w' : World} (h : Lib.IsBuilder 89 5 B b bs w) (hb : Below w.heap.size w w') : Lib.IsBuilder 89 5 B b bs w' := by
  have key : ∀ p, Lib.BuilderAt 89 5 B b p bs w → Lib.BuilderAt 89 5 B b p bs w' := fun p hp => by
    have hlt := hp.lt
    obtain ⟨h1, v, h2, h3, h4⟩ := hp
    exact ⟨h1, v, by rw [hb.block b hlt]; exact h2, own_below h3 hb, h4⟩
  exact h.imp (key _) (key _)
set_option maxHeartbeats 8000000 in
set_option maxRecDepth 100000 in
theorem read_c (g h : Nat) (s : ByteArray) (n : Nat) (w : World) (hg : g < 16) (hh : h < 16) (hn : 3 ≤ n) (hn2 : n ≤ 1000) (hs : s.size = 2 * n) :
    Calls Try.prog 62 #[.agg #[.int .i64 (g : Int), .int .i64 (h : Int)], .string s] w fun e w' => e = .returned (.tuple #[.string ⟨(msgR g h s n (n - 3)).toArray⟩, .int .i64 ((rowR g h s n 0).getD 0 0)]) ∧ Below w.heap.size w w' := by
  obtain ⟨w0, hw0⟩ : ∃ w0, w.alloc (Obj.cells #[.int .i64 (g : Int), .int .i64 (h : Int)] 77) = w0 := ⟨_, rfl⟩
  obtain ⟨C, hmk, hC⟩ := make8 (n + 1) (by omega) w0
  have hq2 : ((s.size : Nat) : Int) / 2 = (n : Int) := by rw [hs]; omega
  have hcast : ((n + 1 : Nat) : Int) = (n : Int) + 1 := by omega
  rw [hcast] at hmk
  go_enter Try.func62, Try.ntmps62
  go_wp2_with fail
  clear hmk hcast hq2
  have hz0 : w0.heap.size = w.heap.size + 1 := by rw [← hw0]; simp
  have hB0 : Below w.heap.size w w0 := by rw [← hw0]; exact (Below.refl _ _).alloc (Nat.le_refl _) _
  have h0 : w0.heap[w.heap.size]? = some (.cells #[.int .i64 (g : Int), .int .i64 (h : Int)] 77 (0, 0)) := by rw [← hw0]; exact heap_alloc_new _ _
  obtain ⟨w1, hw1⟩ : ∃ w1, w0.alloc (Obj.cells C 108) = w1 := ⟨_, rfl⟩
  have hz1 : w1.heap.size = w.heap.size + 2 := by rw [← hw1]; simp; omega
  have h1 : w1.heap[w.heap.size]? = some (.cells #[.int .i64 (g : Int), .int .i64 (h : Int)] 77 (0, 0)) := by rw [← hw1, Lib.alloc_old w0 _ _ (by omega)]; exact h0
  have hB1 : Below w.heap.size w w1 := by rw [← hw1]; exact hB0.alloc (by omega) _
  rw [hw1]
  obtain ⟨b, hb⟩ : ∃ b, w0.heap.size = b := ⟨_, rfl⟩
  have hR1 : Rows8 w1 b (n + 1) (fun i j => if n ≤ i then (rowR g h s n i).getD j 0 else 0) := by
    refine ⟨C, by rw [← hw1, ← hb]; exact heap_alloc_new _ _, fun i j hi hj => ?_⟩
    rw [hC i j hi hj]
    by_cases e : n ≤ i
    · obtain rfl : n = i := by omega
      simp only [Nat.le_refl, if_true, rowR_end]
      match j, hj with
      | 0, _ | 1, _ | 2, _ | 3, _ | 4, _ | 5, _ | 6, _ | 7, _ => rfl
      | j + 8, h => omega
    · simp only [if_neg e]
  rw [hb]
  have hbw : b = w.heap.size + 1 := by omega
  have HBW := Lib.hid hbw
  have hbne : w.heap.size ≠ b := by omega
  have hbl : w.heap.size < b := by omega
  have HB1 := Lib.hid hB1
  have H1 := Lib.hid h1
  have HR1 := Lib.hid hR1
  have HS := Lib.hid hs
  have hs2 : s.size ≤ 1000000 := by omega
  clear hw0 hw1 hC hz0 hB0 h0 hB1 h1 hR1 hb hbw
  go_loopw [8] (fun v8 wr => ∃ (v : Int) (k : Nat), v8 = .int .i64 v ∧ v = (k : Int) - 1 ∧ k ≤ n ∧ Hid (Rows8 wr b (n + 1) (fun i j => if k ≤ i then (rowR g h s n i).getD j 0 else 0)) ∧ Hid (R.Keeps [b] w1 wr)) (fun v8 _ => (intOf v8 + 1).toNat)
  case atStart => exact ⟨_, n, rfl, rfl, Nat.le_refl _, HR1, Lib.hid (R.Keeps.refl _ _)⟩
  case round =>
    rename World => wr
    obtain ⟨v, k, rfl, hv, hk, HR, HK⟩ := hrel
    by_cases hk0 : k = 0
    · subst hk0
      obtain rfl : v = -1 := by omega
      clear hv
      go_wp2_with fail
      obtain ⟨bb, hbb⟩ : ∃ bb, wr.heap.size = bb := ⟨_, rfl⟩
      obtain ⟨w2, hw2⟩ : ∃ w2, wr.alloc (Obj.cells #[Value.pointer none, Value.slice none 0 0] 89) = w2 := ⟨_, rfl⟩
      rw [hw2, hbb]
      have hszr := HK.out.size
      have hK2 : R.Keeps [b] w1 w2 := by rw [← hw2]; exact HK.out.alloc _
      have hz2 : w2.heap.size = bb + 1 := by rw [← hw2]; simp; omega
      have hI2 : Lib.IsBuilder 89 5 bb bb (Lib.byteCells (msgR g h s n 0)) w2 := by
        refine .inl ⟨Nat.le_refl _, .slice none 0 0, by rw [← hw2, ← hbb]; exact heap_alloc_new _ _, ⟨by simp [msgR, Lib.byteCells], .inl ⟨rfl, by simp [msgR, Lib.byteCells]⟩⟩, by simp [Value.ownBlock]⟩
      have hR2 : Rows8 w2 b (n + 1) (fun i j => (rowR g h s n i).getD j 0) := by
        refine (HR.out.move (w' := w2) ?_).congr (fun i j _ _ => by simp)
        rw [← hw2, Lib.alloc_old wr _ _ (by have := HBW.out; omega)]
      have HK2 := Lib.hid hK2
      have HI2 := Lib.hid hI2
      have HR2 := Lib.hid hR2
      have hbbb : b < bb := by have := HBW.out; omega
      clear hw2 hbb hK2 hI2 hR2 HR HK hszr
      go_loopw [10, 12, 45] (fun v10 v12 v45 wl => ∃ (i v : Nat), v45 = .int .i64 (i : Int) ∧ v10 = .int .i64 (v : Int) ∧ i ≤ n - 3 ∧ v < 8 ∧ Hid (stR g h s n i = v) ∧ Hid (Lib.IsBuilder 89 5 bb bb (Lib.byteCells (msgR g h s n i)) wl) ∧ Hid (Below bb w2 wl) ∧ bb + 1 ≤ wl.heap.size) (fun _ _ v45 _ => n - (intOf v45).toNat)
      case atStart => exact ⟨0, 0, rfl, rfl, Nat.zero_le _, by omega, rfl, HI2, Lib.hid (Below.refl _ _), by omega⟩
      case round =>
        rename World => wl
        obtain ⟨i, v, rfl, rfl, hi, hv8, HV, HI, HB, hszl⟩ := hrel
        have y0 : wl.cell? ⟨w.heap.size, 0, none⟩ = some (.int .i64 (g : Int)) := (HB.out.cell (by show w.heap.size < bb; omega)).trans (HK2.out.cell (a := ⟨w.heap.size, 0, none⟩) (by simp [World.cell?, H1.out]) (by simp; exact hbne))
        have y1 : wl.cell? ⟨w.heap.size, 1, none⟩ = some (.int .i64 (h : Int)) := (HB.out.cell (by show w.heap.size < bb; omega)).trans (HK2.out.cell (a := ⟨w.heap.size, 1, none⟩) (by simp [World.cell?, H1.out]) (by simp; exact hbne))
        have hRl : Rows8 wl b (n + 1) (fun i j => (rowR g h s n i).getD j 0) := HR2.out.move (HB.out.block b hbbb)
        by_cases hin : i < n - 3
        · have hin' : (i : Int) < (n : Int) - 3 := by omega
          obtain ⟨v2, hv2⟩ : ∃ v2, 2 * v = v2 := ⟨_, rfl⟩
          have hv16 : v2 < 16 := by omega
          obtain ⟨m, hm⟩ : ∃ m, v2 % 8 = m := ⟨_, rfl⟩
          have hm8 : m < 8 := by omega
          have yx : wl.cell? ⟨b, (i + 1) * 8 + m, none⟩ = some (.int .i64 ((rowR g h s n (i + 1)).getD m 0)) := hRl.cell (by omega) hm8
          have yr : wl.cell? ⟨b, i * 8 + v, none⟩ = some (.int .i64 ((rowR g h s n i).getD v 0)) := hRl.cell (by omega) hv8
          have hbx := rowR_bd g h s n (i + 1) m
          have hdb := differ_bd s (2 * i) (48 + (parN g v2 : Int)) (48 + (parN h v2 : Int))
          have hbit : bitR g h s n i v = if differI s (2 * i) (48 + (parN g v2 : Int)) (48 + (parN h v2 : Int)) + (rowR g h s n (i + 1)).getD m 0 > (rowR g h s n i).getD v 0 then 1 else 0 := by
            unfold bitR stepI; rw [hv2, hm]
          obtain ⟨d, hd⟩ : ∃ d, differI s (2 * i) (48 + (parN g v2 : Int)) (48 + (parN h v2 : Int)) = d := ⟨_, rfl⟩
          obtain ⟨y, hy⟩ : ∃ y, (rowR g h s n (i + 1)).getD m 0 = y := ⟨_, rfl⟩
          obtain ⟨r, hr⟩ : ∃ r, (rowR g h s n i).getD v 0 = r := ⟨_, rfl⟩
          rw [hd] at hdb hbit
          rw [hy] at hbx hbit yx
          rw [hr] at hbit yr
          have hst : stR g h s n (i + 1) = (v2 + bitR g h s n i v) % 8 := by show (2 * stR g h s n i + bitR g h s n i (stR g h s n i)) % 8 = _; rw [HV.out, hv2]
          have hms : msgR g h s n (i + 1) = msgR g h s n i ++ [UInt8.ofNat (48 + bitR g h s n i v)] := by show msgR g h s n i ++ [UInt8.ofNat (48 + bitR g h s n i (stR g h s n i))] = _; rw [HV.out]
          have hand := and7_tab ⟨v2, hv16⟩
          have hor := or_tab2 ⟨v, hv8⟩
          have HAND : Hid (bits BinOp.and IntKind.i64 (v2 : Int) 7 = (m : Int)) := by rw [← hm]; exact Lib.hid hand
          have HSH : Hid ((v : Int) * 2 = (v2 : Int)) := Lib.hid (by omega)
          have HD := Lib.hid hd
          have HST := Lib.hid hst
          have HMS := Lib.hid hms
          have HOR : Hid (bits BinOp.or IntKind.i64 ((v : Int) * 2) 0 = ((v2 + 0 : Nat) : Int) ∧ bits BinOp.or IntKind.i64 ((v : Int) * 2) 1 = ((v2 + 1 : Nat) : Int)) := by rw [← hv2]; exact Lib.hid hor
          have HAN2 : Hid (bits BinOp.and IntKind.i64 ((v2 + 0 : Nat) : Int) 7 = (((v2 + 0) % 8 : Nat) : Int) ∧ bits BinOp.and IntKind.i64 ((v2 + 1 : Nat) : Int) 7 = (((v2 + 1) % 8 : Nat) : Int)) := Lib.hid ⟨and7_tab ⟨v2 + 0, by omega⟩, and7_tab ⟨v2 + 1, by omega⟩⟩
          have CE : Hid (∀ w', R.Keeps [] wl w' → w'.cell? ⟨w.heap.size, 0, none⟩ = some (.int .i64 (g : Int)) ∧ w'.cell? ⟨w.heap.size, 1, none⟩ = some (.int .i64 (h : Int)) ∧ w'.cell? ⟨b, (i + 1) * 8 + m, none⟩ = some (.int .i64 y) ∧ w'.cell? ⟨b, i * 8 + v, none⟩ = some (.int .i64 r)) :=
            Lib.hid (fun w' hw => ⟨hw.cell y0 (by simp), hw.cell y1 (by simp), hw.cell yx (by simp), hw.cell yr (by simp)⟩)
          have hw1 : IntKind.i64.wrap ((i : Int) + 1) = (i : Int) + 1 := IntWalk.i64_in _ (by omega)
          have hw2 : IntKind.i64.wrap (2 * (i : Int)) = 2 * (i : Int) := IntWalk.i64_in _ (by omega)
          have hw3 : IntKind.i64.wrap (d + y) = d + y := IntWalk.i64_in _ (by omega)
          have HW := Lib.hid (And.intro hw1 (And.intro hw2 hw3))
          have hi0 : (0 : Int) ≤ (i : Int) + 1 := by omega
          have hi1 : (i : Int) + 1 < (n : Int) + 1 := by omega
          have hi2 : (i : Int) < (n : Int) + 1 := by omega
          have hm0 : (0 : Int) ≤ (m : Int) := by omega
          have hm8' : (m : Int) < 8 := by omega
          have hv0 : (0 : Int) ≤ (v : Int) := by omega
          have hv8' : (v : Int) < 8 := by omega
          clear hw1 hw2 hw3 hd hy hr hst hms hand hor hm hRl y0 y1 yx yr
          have HBIT := Lib.hid hbit
          clear hbit hv2
          by_cases hgt : r < d + y
          · have hgd : decide (r < d + y) = true := decide_eq_true hgt
            have hb1 : bitR g h s n i v = 1 := by rw [HBIT.out, if_pos hgt]
            have HB1' := Lib.hid hb1
            clear hb1
            go_wp2_with fail
            rw [HSH.out]
            apply R.wp_region_text [0, 1, 2, 3, 4, 7, 8, 9, 10, 11, 12, 13, 14, 16, 17, 18, 19, 20, 21] [5, 6, 15, 22] 23 (R.Keeps [] wl)
            case hm => kernel_rfl
            case hB => kernel_rfl
            case hd => rfl
            case hQ => exact fun _ _ _ _ _ h => h
            case hS => exact (R.Keeps.refl _ _).drew
            case hF =>
              intro w' hS
              obtain ⟨y0, y1, yx, yr⟩ := CE.out w' hS
              obtain ⟨hw1, hw2, hw3⟩ := HW.out
              have ha := HAND.out
              clear hS
              simp only [R.pickC, List.filterMap_cons, List.getElem?_toArray, List.getElem?_cons_zero, List.getElem?_cons_succ, List.filterMap_nil]
              (with_reducible refine R.wpStill_plain rfl (fun K hK => ?_)); go_simp; with_reducible refine hK _ ?_; clear hK K
              (with_reducible refine R.wpStill_plain rfl (fun K hK => ?_)); go_simp; with_reducible refine hK _ ?_; clear hK K
              (with_reducible refine R.wpStill_plain rfl (fun K hK => ?_)); go_simp; with_reducible refine hK _ ?_; clear hK K
              (with_reducible refine R.wpStill_plain rfl (fun K hK => ?_)); go_simp; with_reducible refine hK _ ?_; clear hK K
              (with_reducible refine R.wpStill_plain rfl (fun K hK => ?_)); go_simp; with_reducible refine hK _ ?_; clear hK K
              (with_reducible refine R.wpStill_plain rfl (fun K hK => ?_)); go_simp; with_reducible refine hK _ ?_; clear hK K
              (with_reducible refine R.wpStill_plain rfl (fun K hK => ?_)); go_simp; with_reducible refine hK _ ?_; clear hK K
              (with_reducible refine R.wpStill_plain rfl (fun K hK => ?_)); go_simp; with_reducible refine hK _ ?_; clear hK K
              (with_reducible refine R.wpStill_plain rfl (fun K hK => ?_)); go_simp; with_reducible refine hK _ ?_; clear hK K
              (with_reducible refine R.wpStill_plain rfl (fun K hK => ?_)); go_simp; with_reducible refine hK _ ?_; clear hK K
              (with_reducible refine R.wpStill_plain rfl (fun K hK => ?_)); go_simp; with_reducible refine hK _ ?_; clear hK K
              (with_reducible refine R.wpStill_plain rfl (fun K hK => ?_)); go_simp; with_reducible refine hK _ ?_; clear hK K
              (with_reducible refine R.wpStill_plain rfl (fun K hK => ?_)); go_simp; with_reducible refine hK _ ?_; clear hK K
              (with_reducible refine R.wpStill_plain rfl (fun K hK => ?_)); go_simp; with_reducible refine hK _ ?_; clear hK K
              (with_reducible refine R.wpStill_plain rfl (fun K hK => ?_)); go_simp; with_reducible refine hK _ ?_; clear hK K
              (with_reducible refine R.wpStill_plain rfl (fun K hK => ?_)); go_simp; with_reducible refine hK _ ?_; clear hK K
              (with_reducible refine R.wpStill_plain rfl (fun K hK => ?_)); go_simp; with_reducible refine hK _ ?_; clear hK K
              (with_reducible refine R.wpStill_plain rfl (fun K hK => ?_)); go_simp; with_reducible refine hK _ ?_; clear hK K
              (with_reducible refine R.wpStill_plain rfl (fun K hK => ?_)); go_simp; with_reducible refine hK _ ?_; clear hK K
              exact wpStill_nil rfl
            case hC =>
              simp only [R.chainOf, List.getElem?_toArray, List.getElem?_cons_zero, List.getElem?_cons_succ, Nat.reduceBNe, Bool.and_true, Bool.and_false, Bool.false_and]
              refine R.wpSeq_same (fun K hK => ?_)
              go_simp
              refine (out_c hg hh hv16 _).mono ?_
              rintro e w3 ⟨rfl, hB3⟩
              have hK3 : R.Keeps [] wl w3 := ((R.Keeps.refl [] _).drew).trans (R.Keeps.of_below [] hB3) (fun k hk => by simp at hk)
              refine hK _ _ hK3 ?_
              clear hK K
              refine R.wpSeq_same (fun K hK => ?_)
              go_simp
              rw [show (2 : Int) * (i : Int) = ((2 * i : Nat) : Int) by omega]
              refine (differ_c s (2 * i) _ _ _ (by have := HS.out; omega) hs2).mono ?_
              rintro e w4 ⟨rfl, hB4⟩
              rw [HD.out]
              have hK4 : R.Keeps [] wl w4 := hK3.trans (R.Keeps.of_below [] hB4) (fun k hk => by simp at hk)
              refine hK _ _ hK4 ?_
              clear hK K
              have HK4 := Lib.hid hK4
              clear hB3 hB4 hK3 hK4
              refine R.wpSeq_same (fun K hK => ?_)
              have hwr := HW.out.2.2
              go_simp
              clear hwr
              with_reducible refine hK _ _ HK4.out ?_
              clear hK K
              refine R.wpSeq_same (fun K hK => ?_)
              go_simp
              with_reducible refine hK _ _ HK4.out ?_
              clear hK K
              refine R.wpSeq_nil ?_
              have hsz4 := HK4.out.size
              have HI4 := Lib.hid (is_below HI.out (HK4.out.to_below (Nat.le_refl _) (fun k hk => by simp at hk)))
              have HB4 := Lib.hid (HB.out.trans (HK4.out.to_below (B := bb) (by omega) (fun k hk => by simp at hk)))
              go_wp2_with fail
              refine (WriteByte_c bb bb _ 49 _ HI4.out (by rw [byteCells_len, msgR_len]; omega) (by omega)).mono ?_
              rintro e w5 ⟨rfl, hI5, hB5⟩
              have HI5 : Hid (Lib.IsBuilder 89 5 bb bb (Lib.byteCells (msgR g h s n (i + 1))) w5) := by
                rw [HMS.out, HB1'.out, byteCells_snoc]
                exact Lib.hid (.inr hI5)
              have HST5 : Hid (stR g h s n (i + 1) = (v2 + 1) % 8) := by
                have := HST.out
                rw [HB1'.out] at this
                exact Lib.hid this
              have HB5 := Lib.hid (HB4.out.trans hB5)
              have hsz5 : bb + 1 ≤ w5.heap.size := by have := hI5.lt; omega
              clear hI5 hB5
              go_wp2_with fail
              refine ⟨⟨i + 1, (v2 + 1) % 8, by go_num, by rw [HOR.out.2, HAN2.out.2], by omega, by omega, HST5, HI5, HB5, hsz5⟩, by simp [intOf]; omega⟩
          · have hgd : decide (r < d + y) = false := decide_eq_false hgt
            have hb1 : bitR g h s n i v = 0 := by rw [HBIT.out, if_neg hgt]
            have HB1' := Lib.hid hb1
            clear hb1
            go_wp2_with fail
            rw [HSH.out]
            apply R.wp_region_text [0, 1, 2, 3, 4, 7, 8, 9, 10, 11, 12, 13, 14, 16, 17, 18, 19, 20, 21] [5, 6, 15, 22] 23 (R.Keeps [] wl)
            case hm => kernel_rfl
            case hB => kernel_rfl
            case hd => rfl
            case hQ => exact fun _ _ _ _ _ h => h
            case hS => exact (R.Keeps.refl _ _).drew
            case hF =>
              intro w' hS
              obtain ⟨y0, y1, yx, yr⟩ := CE.out w' hS
              obtain ⟨hw1, hw2, hw3⟩ := HW.out
              have ha := HAND.out
              clear hS
              simp only [R.pickC, List.filterMap_cons, List.getElem?_toArray, List.getElem?_cons_zero, List.getElem?_cons_succ, List.filterMap_nil]
              (with_reducible refine R.wpStill_plain rfl (fun K hK => ?_)); go_simp; with_reducible refine hK _ ?_; clear hK K
              (with_reducible refine R.wpStill_plain rfl (fun K hK => ?_)); go_simp; with_reducible refine hK _ ?_; clear hK K
              (with_reducible refine R.wpStill_plain rfl (fun K hK => ?_)); go_simp; with_reducible refine hK _ ?_; clear hK K
              (with_reducible refine R.wpStill_plain rfl (fun K hK => ?_)); go_simp; with_reducible refine hK _ ?_; clear hK K
              (with_reducible refine R.wpStill_plain rfl (fun K hK => ?_)); go_simp; with_reducible refine hK _ ?_; clear hK K
              (with_reducible refine R.wpStill_plain rfl (fun K hK => ?_)); go_simp; with_reducible refine hK _ ?_; clear hK K
              (with_reducible refine R.wpStill_plain rfl (fun K hK => ?_)); go_simp; with_reducible refine hK _ ?_; clear hK K
              (with_reducible refine R.wpStill_plain rfl (fun K hK => ?_)); go_simp; with_reducible refine hK _ ?_; clear hK K
              (with_reducible refine R.wpStill_plain rfl (fun K hK => ?_)); go_simp; with_reducible refine hK _ ?_; clear hK K
              (with_reducible refine R.wpStill_plain rfl (fun K hK => ?_)); go_simp; with_reducible refine hK _ ?_; clear hK K
              (with_reducible refine R.wpStill_plain rfl (fun K hK => ?_)); go_simp; with_reducible refine hK _ ?_; clear hK K
              (with_reducible refine R.wpStill_plain rfl (fun K hK => ?_)); go_simp; with_reducible refine hK _ ?_; clear hK K
              (with_reducible refine R.wpStill_plain rfl (fun K hK => ?_)); go_simp; with_reducible refine hK _ ?_; clear hK K
              (with_reducible refine R.wpStill_plain rfl (fun K hK => ?_)); go_simp; with_reducible refine hK _ ?_; clear hK K
              (with_reducible refine R.wpStill_plain rfl (fun K hK => ?_)); go_simp; with_reducible refine hK _ ?_; clear hK K
              (with_reducible refine R.wpStill_plain rfl (fun K hK => ?_)); go_simp; with_reducible refine hK _ ?_; clear hK K
              (with_reducible refine R.wpStill_plain rfl (fun K hK => ?_)); go_simp; with_reducible refine hK _ ?_; clear hK K
              (with_reducible refine R.wpStill_plain rfl (fun K hK => ?_)); go_simp; with_reducible refine hK _ ?_; clear hK K
              (with_reducible refine R.wpStill_plain rfl (fun K hK => ?_)); go_simp; with_reducible refine hK _ ?_; clear hK K
              exact wpStill_nil rfl
            case hC =>
              simp only [R.chainOf, List.getElem?_toArray, List.getElem?_cons_zero, List.getElem?_cons_succ, Nat.reduceBNe, Bool.and_true, Bool.and_false, Bool.false_and]
              refine R.wpSeq_same (fun K hK => ?_)
              go_simp
              refine (out_c hg hh hv16 _).mono ?_
              rintro e w3 ⟨rfl, hB3⟩
              have hK3 : R.Keeps [] wl w3 := ((R.Keeps.refl [] _).drew).trans (R.Keeps.of_below [] hB3) (fun k hk => by simp at hk)
              refine hK _ _ hK3 ?_
              clear hK K
              refine R.wpSeq_same (fun K hK => ?_)
              go_simp
              rw [show (2 : Int) * (i : Int) = ((2 * i : Nat) : Int) by omega]
              refine (differ_c s (2 * i) _ _ _ (by have := HS.out; omega) hs2).mono ?_
              rintro e w4 ⟨rfl, hB4⟩
              rw [HD.out]
              have hK4 : R.Keeps [] wl w4 := hK3.trans (R.Keeps.of_below [] hB4) (fun k hk => by simp at hk)
              refine hK _ _ hK4 ?_
              clear hK K
              have HK4 := Lib.hid hK4
              clear hB3 hB4 hK3 hK4
              refine R.wpSeq_same (fun K hK => ?_)
              have hwr := HW.out.2.2
              go_simp
              clear hwr
              with_reducible refine hK _ _ HK4.out ?_
              clear hK K
              refine R.wpSeq_same (fun K hK => ?_)
              go_simp
              with_reducible refine hK _ _ HK4.out ?_
              clear hK K
              refine R.wpSeq_nil ?_
              have hsz4 := HK4.out.size
              have HI4 := Lib.hid (is_below HI.out (HK4.out.to_below (Nat.le_refl _) (fun k hk => by simp at hk)))
              have HB4 := Lib.hid (HB.out.trans (HK4.out.to_below (B := bb) (by omega) (fun k hk => by simp at hk)))
              go_wp2_with fail
              refine (WriteByte_c bb bb _ 48 _ HI4.out (by rw [byteCells_len, msgR_len]; omega) (by omega)).mono ?_
              rintro e w5 ⟨rfl, hI5, hB5⟩
              have HI5 : Hid (Lib.IsBuilder 89 5 bb bb (Lib.byteCells (msgR g h s n (i + 1))) w5) := by
                rw [HMS.out, HB1'.out, byteCells_snoc]
                exact Lib.hid (.inr hI5)
              have HST5 : Hid (stR g h s n (i + 1) = (v2 + 0) % 8) := by
                have := HST.out
                rw [HB1'.out] at this
                exact Lib.hid this
              have HB5 := Lib.hid (HB4.out.trans hB5)
              have hsz5 : bb + 1 ≤ w5.heap.size := by have := hI5.lt; omega
              clear hI5 hB5
              go_wp2_with fail
              refine ⟨⟨i + 1, (v2 + 0) % 8, by go_num, by rw [HOR.out.1, HAN2.out.1], by omega, by omega, HST5, HI5, HB5, hsz5⟩, by simp [intOf]; omega⟩
        · obtain rfl : i = n - 3 := by omega
          have y00 : wl.cell? ⟨b, 0, none⟩ = some (.int .i64 ((rowR g h s n 0).getD 0 0)) := hRl.cell (i := 0) (j := 0) (by omega) (by omega)
          obtain ⟨r, hr⟩ : ∃ r, (rowR g h s n 0).getD 0 0 = r := ⟨_, rfl⟩
          rw [hr] at y00
          have CE : Hid (∀ w', Below bb wl w' → w'.cell? ⟨b, 0, none⟩ = some (.int .i64 r)) := Lib.hid (fun w' hw => (hw.cell (by show b < bb; exact hbbb)).trans y00)
          have HRR := Lib.hid hr
          clear y0 y1 hRl hr
          have hn0 : (0 : Int) < (n : Int) + 1 := by omega
          have hwb : w.heap.size ≤ bb := by omega
          have hz12 : w.heap.size ≤ w1.heap.size := by omega
          have HFIN : Hid (∀ w', Below bb wl w' → Below w.heap.size w w') := Lib.hid (fun w' hw => HB1.out.trans ((HK2.out.to_below (B := w.heap.size) hz12 (fun k hk => by simp at hk; omega)).trans ((HB.out.trans hw).mono hwb)))
          go_wp2_with fail
          go_region_held3 (fun w' => w'.cell? ⟨b, 0, none⟩ = some (.int .i64 r))
            ((refine CE.out _ ?_; first | exact (Below.refl _ _).drew | exact hB3 | exact ((Below.refl _ _).drew).trans hB3))
            ((go_at_call 68; refine (Builder_String_any bb bb _ _ (is_below HI.out ((Below.refl _ _).drew)) (by simp; omega)).mono ?_; rintro e w3 ⟨rfl, hB3⟩))
          all_goals
            go_wp2_with fail
            refine bodyPost_ret (v := .tuple #[.string ⟨(msgR g h s n (n - 3)).toArray⟩, .int .i64 r]) (by simp [results, Try.results62, go_sem]) rfl ⟨by rw [HRR.out], HFIN.out _ (((Below.refl _ _).drew).trans hB3)⟩
    · obtain ⟨q, rfl⟩ : ∃ q, k = q + 1 := ⟨k - 1, by omega⟩
      obtain rfl : v = (q : Int) := by omega
      clear hv hk0
      obtain ⟨xs, hxs⟩ : ∃ xs, rowR g h s n (q + 1) = xs := ⟨_, rfl⟩
      have hxl : xs.length = 8 := by rw [← hxs]; exact rowR_len _ _ _ _ _
      have hxb : ∀ j, 0 ≤ [xs.getD 0 0, xs.getD 1 0, xs.getD 2 0, xs.getD 3 0, xs.getD 4 0, xs.getD 5 0, xs.getD 6 0, xs.getD 7 0].getD j 0 ∧ [xs.getD 0 0, xs.getD 1 0, xs.getD 2 0, xs.getD 3 0, xs.getD 4 0, xs.getD 5 0, xs.getD 6 0, xs.getD 7 0].getD j 0 ≤ 1048576 := by rw [list8 hxl, ← hxs]; exact rowR_bd g h s n (q + 1)
      have y0 : wr.cell? ⟨w.heap.size, 0, none⟩ = some (.int .i64 (g : Int)) := HK.out.cell (a := ⟨w.heap.size, 0, none⟩) (by simp [World.cell?, H1.out]) (by simp; exact hbne)
      have y1 : wr.cell? ⟨w.heap.size, 1, none⟩ = some (.int .i64 (h : Int)) := HK.out.cell (a := ⟨w.heap.size, 1, none⟩) (by simp [World.cell?, H1.out]) (by simp; exact hbne)
      have hcell : ∀ j, j < 8 → wr.cell? ⟨b, (q + 1) * 8 + j, none⟩ = some (.int .i64 (xs.getD j 0)) := fun j hj => by
        have := HR.out.cell (i := q + 1) (by omega) hj
        simpa only [Nat.le_refl, if_true, hxs] using this
      have CE : Hid (∀ w', R.Keeps [] wr w' → w'.cell? ⟨w.heap.size, 0, none⟩ = some (.int .i64 (g : Int)) ∧ w'.cell? ⟨w.heap.size, 1, none⟩ = some (.int .i64 (h : Int)) ∧ w'.cell? ⟨b, (q + 1) * 8, none⟩ = some (.int .i64 (xs.getD 0 0)) ∧ w'.cell? ⟨b, (q + 1) * 8 + 1, none⟩ = some (.int .i64 (xs.getD 1 0)) ∧ w'.cell? ⟨b, (q + 1) * 8 + 2, none⟩ = some (.int .i64 (xs.getD 2 0)) ∧ w'.cell? ⟨b, (q + 1) * 8 + 3, none⟩ = some (.int .i64 (xs.getD 3 0)) ∧ w'.cell? ⟨b, (q + 1) * 8 + 4, none⟩ = some (.int .i64 (xs.getD 4 0)) ∧ w'.cell? ⟨b, (q + 1) * 8 + 5, none⟩ = some (.int .i64 (xs.getD 5 0)) ∧ w'.cell? ⟨b, (q + 1) * 8 + 6, none⟩ = some (.int .i64 (xs.getD 6 0)) ∧ w'.cell? ⟨b, (q + 1) * 8 + 7, none⟩ = some (.int .i64 (xs.getD 7 0))) :=
        Lib.hid (fun w' hw => ⟨hw.cell y0 (by simp), hw.cell y1 (by simp), hw.cell (hcell 0 (by omega)) (by simp), hw.cell (hcell 1 (by omega)) (by simp), hw.cell (hcell 2 (by omega)) (by simp), hw.cell (hcell 3 (by omega)) (by simp), hw.cell (hcell 4 (by omega)) (by simp), hw.cell (hcell 5 (by omega)) (by simp), hw.cell (hcell 6 (by omega)) (by simp), hw.cell (hcell 7 (by omega)) (by simp)⟩)
      have hstep := rowR_step g h s (n := n) (q := q) (by omega)
      rw [hxs] at hstep
      have HSTEP := Lib.hid hstep
      have HXL := Lib.hid hxl
      have HXB := Lib.hid hxb
      clear hxl hxb y0 y1 hcell hstep hxs
      have hq0 : (0 : Int) ≤ (q : Int) := by omega
      have hq1 : (q : Int) + 1 < (n : Int) + 1 := by omega
      have hq2 : (0 : Int) ≤ (q : Int) + 1 := by omega
      have hq3 : (q : Int) < (n : Int) + 1 := by omega
      have hw1 : IntKind.i64.wrap ((q : Int) + 1) = (q : Int) + 1 := IntWalk.i64_in _ (by omega)
      have hw2 : IntKind.i64.wrap (2 * (q : Int)) = 2 * (q : Int) := IntWalk.i64_in _ (by omega)
      have hw3 : IntKind.i64.wrap ((n : Int) - 3) = (n : Int) - 3 := IntWalk.i64_in _ (by omega)
      have HW := Lib.hid (And.intro hw1 (And.intro hw2 hw3))
      clear hw1 hw2 hw3
      go_wp2_with fail
      apply R.wp_region_text [0, 1, 2, 3, 4, 5, 6, 7, 8, 9, 10, 11, 12, 13, 14] [15, 16, 17] 16 (R.Keeps [] wr)
      case hm => kernel_rfl
      case hB => kernel_rfl
      case hd => rfl
      case hQ => exact fun _ _ _ _ _ h => h
      case hS => exact (R.Keeps.refl _ _).drew
      case hF =>
        intro w' hS
        obtain ⟨y0, y1, z0, z1, z2, z3, z4, z5, z6, z7⟩ := CE.out w' hS
        obtain ⟨hw1, hw2, hw3⟩ := HW.out
        clear hS
        simp only [R.pickC, List.filterMap_cons, List.getElem?_toArray, List.getElem?_cons_zero, List.getElem?_cons_succ, List.filterMap_nil]
        (with_reducible refine R.wpStill_plain rfl (fun K hK => ?_)); go_simp; with_reducible refine hK _ ?_; clear hK K
        (with_reducible refine R.wpStill_plain rfl (fun K hK => ?_)); go_simp; with_reducible refine hK _ ?_; clear hK K
        (with_reducible refine R.wpStill_plain rfl (fun K hK => ?_)); go_simp; with_reducible refine hK _ ?_; clear hK K
        (with_reducible refine R.wpStill_plain rfl (fun K hK => ?_)); go_simp; with_reducible refine hK _ ?_; clear hK K
        (with_reducible refine R.wpStill_plain rfl (fun K hK => ?_)); go_simp; with_reducible refine hK _ ?_; clear hK K
        (with_reducible refine R.wpStill_plain rfl (fun K hK => ?_)); go_simp; with_reducible refine hK _ ?_; clear hK K
        (with_reducible refine R.wpStill_plain rfl (fun K hK => ?_)); go_simp; with_reducible refine hK _ ?_; clear hK K
        (with_reducible refine R.wpStill_plain rfl (fun K hK => ?_)); go_simp; with_reducible refine hK _ ?_; clear hK K
        (with_reducible refine R.wpStill_plain rfl (fun K hK => ?_)); go_simp; with_reducible refine hK _ ?_; clear hK K
        (with_reducible refine R.wpStill_plain rfl (fun K hK => ?_)); go_simp; with_reducible refine hK _ ?_; clear hK K
        (with_reducible refine R.wpStill_plain rfl (fun K hK => ?_)); go_simp; with_reducible refine hK _ ?_; clear hK K
        (with_reducible refine R.wpStill_plain rfl (fun K hK => ?_)); go_simp; with_reducible refine hK _ ?_; clear hK K
        (with_reducible refine R.wpStill_plain rfl (fun K hK => ?_)); go_simp; with_reducible refine hK _ ?_; clear hK K
        (with_reducible refine R.wpStill_plain rfl (fun K hK => ?_)); go_simp; with_reducible refine hK _ ?_; clear hK K
        (with_reducible refine R.wpStill_plain rfl (fun K hK => ?_)); go_simp; with_reducible refine hK _ ?_; clear hK K
        exact wpStill_nil rfl
      case hC =>
        simp only [R.chainOf, List.getElem?_toArray, List.getElem?_cons_zero, List.getElem?_cons_succ, Nat.reduceBNe, Bool.and_true, Bool.and_false, Bool.false_and]
        refine R.wpSeq_same (fun K hK => ?_)
        go_simp
        rw [show (2 : Int) * (q : Int) = ((2 * q : Nat) : Int) by omega]
        refine (back_c g h _ _ _ _ _ _ _ _ s (2 * q) _ _ hg hh (by have := HS.out; omega) hs2 HXB.out).mono ?_
        rintro e w2 ⟨rfl, hB2⟩
        rw [list8 HXL.out, ← HSTEP.out]
        have hK2 : R.Keeps [] wr w2 := ((R.Keeps.refl [] _).drew).trans (R.Keeps.of_below [] hB2) (fun k hk => by simp at hk)
        refine hK _ _ hK2 ?_
        clear hK K
        have HK2 := Lib.hid hK2
        clear hB2 hK2
        have hsz2 := HK2.out.size
        have hszr := HK.out.size
        have HR2 : Hid (Rows8 w2 b (n + 1) (fun i j => if q + 1 ≤ i then (rowR g h s n i).getD j 0 else 0)) := Lib.hid (HR.out.move (HK2.out.block b (by have := HBW.out; omega) (by simp)))
        have fr : ∀ j, w2.frozen? ⟨b, q * 8 + j, none⟩ = false := fun j => HR2.out.frozen _
        have cr : ∀ j, j < 8 → w2.cell? ⟨b, q * 8 + j, none⟩ = some (.int .i64 0) := fun j hj => by
          have := HR2.out.cell (i := q) (by omega) hj
          simpa only [if_neg (show ¬ q + 1 ≤ q by omega)] using this
        have f0 : w2.frozen? ⟨b, q * 8, none⟩ = false := fr 0
        have c0 : w2.cell? ⟨b, q * 8, none⟩ = some (.int .i64 0) := cr 0 (by omega)
        have f1 : w2.frozen? ⟨b, q * 8 + 1, none⟩ = false := fr 1
        have c1 : w2.cell? ⟨b, q * 8 + 1, none⟩ = some (.int .i64 0) := cr 1 (by omega)
        have f2 : w2.frozen? ⟨b, q * 8 + 2, none⟩ = false := fr 2
        have c2 : w2.cell? ⟨b, q * 8 + 2, none⟩ = some (.int .i64 0) := cr 2 (by omega)
        have f3 : w2.frozen? ⟨b, q * 8 + 3, none⟩ = false := fr 3
        have c3 : w2.cell? ⟨b, q * 8 + 3, none⟩ = some (.int .i64 0) := cr 3 (by omega)
        have f4 : w2.frozen? ⟨b, q * 8 + 4, none⟩ = false := fr 4
        have c4 : w2.cell? ⟨b, q * 8 + 4, none⟩ = some (.int .i64 0) := cr 4 (by omega)
        have f5 : w2.frozen? ⟨b, q * 8 + 5, none⟩ = false := fr 5
        have c5 : w2.cell? ⟨b, q * 8 + 5, none⟩ = some (.int .i64 0) := cr 5 (by omega)
        have f6 : w2.frozen? ⟨b, q * 8 + 6, none⟩ = false := fr 6
        have c6 : w2.cell? ⟨b, q * 8 + 6, none⟩ = some (.int .i64 0) := cr 6 (by omega)
        have f7 : w2.frozen? ⟨b, q * 8 + 7, none⟩ = false := fr 7
        have c7 : w2.cell? ⟨b, q * 8 + 7, none⟩ = some (.int .i64 0) := cr 7 (by omega)
        clear fr cr
        obtain ⟨o, ho⟩ : ∃ o, rowR g h s n q = o := ⟨_, rfl⟩
        rw [ho]
        have HO := Lib.hid ho
        clear ho
        unfold arr8
        refine R.wpSeq_tail _ rfl ?_
        simp only [List.map_cons, List.map_nil]
        go_wp2_with fail
        refine ⟨⟨(q : Int) - 1, q, rfl, rfl, by omega, ?_, ?_⟩, by simp [intOf]⟩
        · refine Lib.hid ((HR2.out.put (i := q) (by omega) o).congr (fun a c ha hc => ?_))
          by_cases e : a = q
          · subst e
            simp only [if_true, Nat.le_refl, HO.out]
          · by_cases e2 : q + 1 ≤ a
            · simp only [if_neg e, if_pos e2, if_pos (show q ≤ a by omega)]
            · simp only [if_neg e, if_neg e2, if_neg (show ¬ q ≤ a by omega)]
        · exact Lib.hid (((((((((HK.out.trans HK2.out (fun k hk => by simp at hk)).setCell (fun _ => by simp) _).setCell (fun _ => by simp) _).setCell (fun _ => by simp) _).setCell (fun _ => by simp) _).setCell (fun _ => by simp) _).setCell (fun _ => by simp) _).setCell (fun _ => by simp) _).setCell (fun _ => by simp) _)
end Go.Proofs.Ytcpojohpmcnnhaa.A

set_option linter.unusedVariables false
set_option linter.unusedSimpArgs false
namespace Go.Proofs.Ytcpojohpmcnnhaa.A
open Go.RowKit Go.Proofs.YtcpojohpmcnnhaaW.PrintWords Go.Proofs.YtcpojohpmcnnhaaW.PrintLast Go.Proofs.YtcpojohpmcnnhaaW.PrintMore
open Go.Proofs.Ytcpojohpmcnnhaa.PA
def iota (n : Nat) : List Int := (List.range n).map fun (k : Nat) => (k : Int)
theorem iota_length (n : Nat) : (iota n).length = n := by simp [iota]
theorem iota_succ (n : Nat) : iota (n + 1) = iota n ++ [(n : Int)] := by simp [iota, List.range_succ]
def partI (x : Int) : Int := 2 ^ (32 - x.toNat)
def wordB (next x : Int) : ByteArray := ⟨(digs (next / 2 ^ (32 - x.toNat)) x.toNat 0).toArray⟩
def stepW (l : List Int) (st : Int × List ByteArray) (s : Nat) : Int × List ByteArray := (st.1 + partI (l.getD s 0), st.2.set s (wordB st.1 (l.getD s 0)))
def foldW (l : List Int) (o : List Nat) : Int × List ByteArray := o.foldl (stepW l) (0, List.replicate l.length ⟨#[]⟩)
theorem foldW_next (l : List Int) {o : List Nat} {q : Nat} (hq : q < o.length) : foldW l (o.take (q + 1)) = stepW l (foldW l (o.take q)) (o.getD q 0) := by
  unfold foldW
  rw [List.take_add_one, List.foldl_append, List.getElem?_eq_getElem hq]
  simp [hq]
theorem partI_pos (x : Int) : 0 < partI x := Int.pow_pos (by omega)
theorem foldl_ge (l : List Int) : ∀ (o : List Nat) (st : Int × List ByteArray), st.1 ≤ (o.foldl (stepW l) st).1
  | [], _ => Int.le_refl _
  | s :: o, st => by
    have h1 := foldl_ge l o (stepW l st s)
    have h2 := partI_pos (l.getD s 0)
    have h3 : (stepW l st s).1 = st.1 + partI (l.getD s 0) := rfl
    simp only [List.foldl_cons]
    omega
theorem foldW_le (l : List Int) (o : List Nat) (q : Nat) : (foldW l (o.take q)).1 ≤ (foldW l o).1 := by
  have : foldW l o = (o.drop q).foldl (stepW l) (foldW l (o.take q)) := by
    unfold foldW
    rw [← List.foldl_append, List.take_append_drop]
  rw [this]
  exact foldl_ge l _ _
theorem foldW_nn (l : List Int) (o : List Nat) : 0 ≤ (foldW l o).1 := foldl_ge l o (0, _)
theorem foldl_len (l : List Int) : ∀ (o : List Nat) (st : Int × List ByteArray), (o.foldl (stepW l) st).2.length = st.2.length
  | [], _ => rfl
  | s :: o, st => by
    have h1 := foldl_len l o (stepW l st s)
    simp only [List.foldl_cons]
    rw [h1]
    simp [stepW]
theorem foldW_len (l : List Int) (o : List Nat) : (foldW l o).2.length = l.length := by unfold foldW; rw [foldl_len]; simp
def StrRow (w : World) (b : Nat) (L : List ByteArray) : Prop := w.heap[b]? = some (.cells (L.map Value.string).toArray 9 (0, 0))
theorem make_strs (m : Nat) (hm : m ≤ 1000000) (w : World) : (Instr.makeSlice 33 (.int .i64 (m : Int)) (.int .i64 (m : Int))).run Try.prog w =
    .ok (.slice (some ⟨w.heap.size, 0, none⟩) m m) (w.alloc (.cells ((List.replicate m (⟨#[]⟩ : ByteArray)).map Value.string).toArray 9)) := by
  obtain ⟨i0, hi0, hz0, hz1, hz2⟩ := info_parts info9
  have h := run_make (P := Try.prog) w 33 9 i0 (.string ⟨#[]⟩) Try.underlying33 hi0 hz0 .i64 .i64 m m (by omega) (by omega) (by rw [hz2]; omega) (by omega)
  rw [h, hz1]
  have e : madeCells (Value.string ⟨#[]⟩).cells ((m : Int).toNat * 1) = ((List.replicate m (⟨#[]⟩ : ByteArray)).map Value.string).toArray := by
    have h1 := toList_madeCells_one (.string ⟨#[]⟩) m
    rw [show (m : Int).toNat * 1 = m by omega]
    apply Array.ext'
    rw [show (Value.string ⟨#[]⟩).cells = #[.string ⟨#[]⟩] from rfl, h1]
    simp
  rw [e]
  rfl
theorem StrRow.set {w : World} {b : Nat} {L : List ByteArray} (h : StrRow w b L) (k : Nat) (s : ByteArray) : StrRow (w.setCell ⟨b, k, none⟩ (.string s)) b (L.set k s) := by
  unfold StrRow at *
  have e : (w.setCell ⟨b, k, none⟩ (.string s)).heap[b]? = some (.cells (((L.map Value.string).toArray).setIfInBounds k (.string s)) 9 (0, 0)) := by simp [World.setCell, Array.getElem?_modify, h]
  rw [e]
  simp [List.map_set]
theorem StrRow.owns {w : World} {b base : Nat} {L : List ByteArray} {n : Nat} (h : StrRow w b L) (hn : L.length = n) (hb : base ≤ b) (hm : n ≤ maxLen) : w.ownsRow base 9 1 (.slice (some ⟨b, 0, none⟩) n n) n (L.map Value.string) := by
  refine ⟨by simp [hn], .inr ⟨b, n, _, rfl, hb, h, Nat.le_refl _, hm, by simp [hn], ?_⟩⟩
  rw [Nat.mul_one, List.take_of_length_le (by simp [hn])]
theorem StrRow.size {w : World} {b : Nat} {L : List ByteArray} (h : StrRow w b L) : b < w.heap.size := by
  rcases Nat.lt_or_ge b w.heap.size with h1 | h1
  · exact h1
  · unfold StrRow at h; rw [Array.getElem?_eq_none (by omega)] at h; cases h
theorem StrRow.cell {w : World} {b : Nat} {L : List ByteArray} (h : StrRow w b L) {k : Nat} (hk : k < L.length) : w.cell? ⟨b, k, none⟩ = some (.string (L.getD k ⟨#[]⟩)) := by
  unfold StrRow at h
  simp [World.cell?, h, hk]
set_option maxRecDepth 100000 in
set_option maxHeartbeats 4000000 in
theorem words_c (A : Option Addr) (c : Nat) (l : List Int) (w : World) (hr : Kd.C (Kd.int .i64) w A l.length l) (h0 : 0 < l.length) (hl : l.length ≤ 1000) (hall : ∀ x, x ∈ l → 0 ≤ x ∧ x ≤ 32) (hsum : (foldW l (ordL (keyI l) l.length)).1 ≤ 4294967296) :
    Calls Try.prog 56 #[.slice A l.length c] w fun e w' => ∃ v, e = .returned v ∧ Kd.R Kd.string 9 w' w.heap.size (fun _ => True) v (foldW l (ordL (keyI l) l.length)).2 ∧ Below w.heap.size w w' := by
  have e72 : ∀ args w, (callFunc 72 args).run Try.prog w = .ok (.enter 72 args) w := enters_mk Try.func72 (by kernel_rfl) rfl
  have e75 : ∀ args w, (callFunc 75 args).run Try.prog w = .ok (.enter 75 args) w := enters_mk Try.func75 (by kernel_rfl) rfl
  obtain ⟨ord, hord⟩ : ∃ ord, ordL (keyI l) l.length = ord := ⟨_, rfl⟩
  rw [hord] at hsum ⊢
  have HORD := Lib.hid hord
  have hol : ord.length = l.length := by rw [← hord, (ordL_perm _ _).length_eq]; simp
  have hor : ∀ q, q < l.length → ord.getD q 0 < l.length := fun q hq => by
    have h9 : ord.getD q 0 ∈ ordL (keyI l) l.length := by rw [hord]; exact getD_mem (by omega)
    exact List.mem_range.1 ((ordL_perm _ _).subset h9)
  have HOL := Lib.hid hol
  have HOR := Lib.hid hor
  clear hord hol hor
  have hB1 := (Below.refl w.heap.size w).alloc (Nat.le_refl _) (Obj.cells #[Value.slice A l.length c] 22)
  obtain ⟨w1, hw1⟩ : ∃ w1, w.alloc (Obj.cells #[Value.slice A l.length c] 22) = w1 := ⟨_, rfl⟩
  rw [hw1] at hB1
  have hz1 : w1.heap.size = w.heap.size + 1 := by rw [← hw1]; simp
  have hc1 : w1.heap[w.heap.size]? = some (.cells #[Value.slice A l.length c] 22 (0, 0)) := by rw [← hw1]; exact heap_alloc_new _ _
  have hcell : w1.cell? ⟨w.heap.size, 0, none⟩ = some (.slice A l.length c) := by simp [World.cell?, hc1]
  have HR := Lib.hid hr
  have HB1 := Lib.hid hB1
  have HC1 := Lib.hid hc1
  have HALL := Lib.hid hall
  have HSUM := Lib.hid hsum
  have HZ1 := Lib.hid hz1
  clear hr hB1 hc1 hall hsum hz1
  go_enter Try.func56, Try.ntmps56
  go_wp2_with fail
  clear hw1
  go_loopw [3, 12] (fun v3 v12 wr => ∃ (q : Nat), v12 = .int .i64 (q : Int) ∧ q ≤ l.length ∧ Hid (Kd.R (Kd.int .i64) 3 wr w1.heap.size (fun _ => True) v3 (iota q)) ∧ Below w1.heap.size w1 wr) (fun _ v12 _ => l.length - (intOf v12).toNat)
  case atStart => exact ⟨0, rfl, Nat.zero_le _, Kd.R_nil _ _ _ _ _, Below.refl _ _⟩
  case round =>
    rename World => wr
    obtain ⟨q, rfl, hq, HO, hB⟩ := hrel
    by_cases hlt : q < l.length
    · have hlt' : (q : Int) < (l.length : Int) := by omega
      go_wp2_with (at_builtin; refine Kd.R_append (Kd.int .i64) (w0 := w1) w1.heap.size rfl (.tmp 15) (.tmp 17) 22 3 (.int .i64 0) 8 rfl Try.underlying22 info3 rfl (by decide) (by omega) _ (iota q) (q : Int) [.int .i64 q] (fun _ => True) (fun _ => False) rfl rfl ?aP (fun _ hk => hk.elim) (fun _ _ => trivial) ?aO ?aB ?aS ?aL ?_)
      case aP => exact rfl
      case aO => exact HO.out
      case aB => exact hB
      case aS => exact hB.size
      case aL => rw [iota_length]; omega
      intro v1 w2 ho hb hg hat
      go_wp2_with fail
      refine ⟨⟨q + 1, by go_num, by omega, (by rw [iota_succ]; exact ho), hb⟩, by simp [intOf]; omega⟩
    · obtain rfl : q = l.length := by omega
      have hz1 := HZ1.out
      have hszr := hB.size
      obtain ⟨blk, cap, rfl, hg1, hg2, -⟩ := Kd.R_form HO.out (by rw [iota_length]; exact h0)
      rw [iota_length] at HO ⊢
      have hown := Kd.own_of_R HO.out
      rw [iota_length] at hown
      have hown' : wr.ownsRow w1.heap.size 3 1 (.slice (some ⟨blk, 0, none⟩) l.length cap) l.length ((List.range l.length).map encN) := by
        have e : (iota l.length).map (Value.int .i64) = (List.range l.length).map encN := by unfold iota; rw [List.map_map]; rfl
        rw [← e]; exact hown
      obtain ⟨-, -, -, tail, -, hrow⟩ := owns_row (by simp) hown'
      have hBw : Below w.heap.size w wr := HB1.out.trans (hB.mono (by omega))
      have hbox : wr.cell? ⟨w.heap.size, 0, none⟩ = some (.slice A l.length c) := by simp [World.cell?, hB.block _ (show w.heap.size < w1.heap.size by omega), HC1.out]
      have hcall := sorted_c (key := keyI l) l.length blk cap 73 #[.pointer (some ⟨w.heap.size, 0, none⟩)] wr enters73 h0 (by omega) (fun j hj => hrow.cell (A := List.range j) (x := j) (B := (List.range (l.length - j - 1)).map (fun i => i + (j + 1))) (by
          have : l.length = j + (1 + (l.length - j - 1)) := by omega
          conv => lhs; rw [this, List.range_add, List.range_add]
          simp [Nat.add_comm, Nat.add_left_comm]) (by simp)) (fun blk2 W1 h1 h2 => cmpS73 l A c w.heap.size blk2 w W1 HR.out (by have := h2.size; omega) (by omega) (by omega) (hBw.trans (h2.mono (by omega))) (by rw [h2.cell (by show w.heap.size < _; omega)]; exact hbox) (by omega))
      have HCALL := Lib.hid hcall
      have HBW := Lib.hid hBw
      clear hown hown' hrow hcall hbox hBw HO
      rw [HORD.out] at HCALL
      clear hz1 hlt
      go_wp2_with fail
      refine HCALL.out.mono ?_
      rintro e w2 ⟨blk2, cap2, rfl, ho2, hB2⟩
      obtain ⟨hb2, -, -, tail2, -, hrow2⟩ := owns_row HOL.out ho2
      have hbox2 : w2.cell? ⟨w.heap.size, 0, none⟩ = some (.slice A l.length c) := by
        have hz1 := HZ1.out
        rw [hB2.cell (by show w.heap.size < _; omega)]
        simp [World.cell?, hB.block _ (show w.heap.size < w1.heap.size by omega), HC1.out]
      have HB2 := Lib.hid (HBW.out.trans (hB2.mono (by have := HBW.out.size; omega)))
      have hs2 := hrow2.size
      have HROW2 := Lib.hid hrow2
      have hmk := make_strs l.length (by omega)
      clear ho2 hrow2 hB2 HCALL
      go_wp2_with fail
      clear hmk
      obtain ⟨w3, hw3⟩ : ∃ w3, w2.alloc (Obj.cells (Array.replicate l.length (Value.string ⟨#[]⟩)) 9) = w3 := ⟨_, rfl⟩
      rw [hw3]
      obtain ⟨ob, hob⟩ : ∃ ob, w2.heap.size = ob := ⟨_, rfl⟩
      have hS0 : StrRow w3 ob (foldW l (ord.take 0)).2 := by
        rw [← hw3, ← hob]
        unfold StrRow
        rw [heap_alloc_new]
        simp [foldW]
      have hK0 : R.Keeps [] w2 w3 := by rw [← hw3]; exact (R.Keeps.refl _ _).alloc _
      rw [hob] at hs2 ⊢
      have HS0 := Lib.hid hS0
      have HK0 := Lib.hid hK0
      have HOB := Lib.hid hob
      clear hw3 hS0 hK0 hob
      go_loopw [6, 28] (fun v6 v28 ws => ∃ (q : Nat), v28 = .int .i64 (q : Int) ∧ v6 = .int .i64 (foldW l (ord.take q)).1 ∧ q ≤ l.length ∧ Hid (StrRow ws ob (foldW l (ord.take q)).2) ∧ Hid (R.Keeps [] w2 ws)) (fun _ v28 _ => l.length - (intOf v28).toNat)
      case atStart => exact ⟨0, rfl, rfl, Nat.zero_le _, HS0, HK0⟩
      case round =>
        rename World => ws
        obtain ⟨q, rfl, rfl, hq, HSR, HKS⟩ := hrel
        by_cases hlt : q < l.length
        · have hlt' : (q : Int) < (l.length : Int) := by omega
          have hq0 : (0 : Int) ≤ (q : Int) := by omega
          obtain ⟨s, hs⟩ : ∃ s, ord.getD q 0 = s := ⟨_, rfl⟩
          have hsl := HOR.out q hlt
          have hql : q < ord.length := by rw [HOL.out]; exact hlt
          have hnx := foldW_next l hql
          have hle := foldW_le l ord q
          have hle1 := foldW_le l ord (q + 1)
          have hnn := foldW_nn l (ord.take q)
          have hlen := foldW_len l (ord.take q)
          rw [hs] at hsl hnx
          have hsm := HSUM.out
          have hks := HKS.out.size
          have hBs : Below w.heap.size w ws := HB2.out.trans (HKS.out.to_below (B := w.heap.size) HB2.out.size (fun k hk => by simp at hk))
          have c0 : ws.cell? ⟨w.heap.size, 0, none⟩ = some (.slice A l.length c) := HKS.out.cell hbox2 (by simp)
          have hsp := split_at ord q hql
          rw [hs] at hsp
          have c1 : ws.cell? ⟨blk2, q, none⟩ = some (.int .i64 (s : Int)) := (HROW2.out.keep HKS.out).cell hsp (by simp; omega)
          obtain ⟨ad, x, rfl, hx, c2⟩ := at_int HR.out hBs s hsl
          have hxm : l.getD s 0 = x := by rw [List.getD_eq_getElem?_getD, hx.out]; rfl
          have hxr : 0 ≤ x ∧ x ≤ 32 := HALL.out x (List.mem_of_getElem? hx.out)
          obtain ⟨xn, rfl⟩ := Int.eq_ofNat_of_zero_le hxr.1
          obtain ⟨d, hd⟩ : ∃ d : Nat, 32 - xn = d := ⟨_, rfl⟩
          have hdd : (32 : Int) - (xn : Int) = (d : Int) := by omega
          have wd := wr_small (x := d) (by omega)
          obtain ⟨st, hst⟩ : ∃ st, foldW l (ord.take q) = st := ⟨_, rfl⟩
          rw [hst] at hnx hle hnn hlen HSR ⊢
          have hnx' : foldW l (ord.take (q + 1)) = (st.1 + 2 ^ d, st.2.set s ⟨(digs (st.1 / 2 ^ d) xn 0).toArray⟩) := by
            rw [hnx]
            unfold stepW partI wordB
            rw [hxm, Int.toNat_natCast, hd]
          rw [hnx'] at hle1
          replace hle1 : st.1 + 2 ^ d ≤ (foldW l ord).1 := hle1
          have hobs := HSR.out.size
          have HNX := Lib.hid hnx'
          have f1 : ws.frozen? ⟨ob, s, none⟩ = false := Lib.frozen_of_heap HSR.out s
          have hpow : (0 : Int) < 2 ^ d := Int.pow_pos (by omega)
          obtain ⟨pw, hpw⟩ : ∃ pw : Int, (2 : Int) ^ d = pw := ⟨_, rfl⟩
          have hsn : (s : Int) < (l.length : Int) := by omega
          have hs0 : (0 : Int) ≤ (s : Int) := by omega
          have HBC := Lib.hid (binary_c (st.1 / 2 ^ d) xn ws (shr_bd d hnn (by omega)).1 (shr_bd d hnn (by omega)).2 (by omega))
          have c3 := HSR.out.cell (k := s) (by omega)
          have HPW := Lib.hid hpw
          clear hnx hnx' hx hxm hst hs hsp hBs hpw
          go_wp2_with fail
          refine HBC.out.mono ?_
          rintro e w4 ⟨rfl, hB4⟩
          have hK4 : R.Keeps [] ws w4 := R.Keeps.of_below [] hB4
          have f4 : w4.frozen? ⟨ob, s, none⟩ = false := Lib.frozen_of_heap ((hB4.block ob (by omega)).trans HSR.out) s
          have c4 := hK4.cell c3 (by simp)
          have HK4 := Lib.hid hK4
          have HR4 : Hid (StrRow w4 ob st.2) := Lib.hid ((hB4.block ob (by omega)).trans HSR.out)
          have hp1 : (2 : Int) ^ d ≤ 4294967296 := by omega
          have hw1 : IntKind.i64.wrap (2 ^ d) = 2 ^ d := IntWalk.i64_in _ (by omega)
          have hw2 : IntKind.i64.wrap (st.1 + 2 ^ d) = st.1 + 2 ^ d := IntWalk.i64_in _ (by omega)
          clear hB4 hK4 c3 f1
          go_wp2_with fail
          refine ⟨⟨q + 1, by go_num, by rw [HNX.out], by omega, ?_, ?_⟩, by simp [intOf]; omega⟩
          · rw [HNX.out]
            exact Lib.hid (HR4.out.set s _)
          · exact Lib.hid ((HKS.out.trans HK4.out (fun k hk _ => hk)).setCell (fun h => by simp at h; have := HOB.out; omega) _)
        · obtain rfl : q = l.length := by omega
          go_wp2_with fail
          go_ret
          have ht : ord.take l.length = ord := List.take_of_length_le (by rw [HOL.out]; exact Nat.le_refl _)
          refine ⟨_, rfl, Kd.R_of_own (?_) (fun _ _ => trivial), ?_⟩
          · have h7 := HSR.out
            rw [ht] at h7
            have h8 := h7.owns (n := (foldW l ord).2.length) (base := w.heap.size) rfl (by have := HB2.out.size; have := HOB.out; omega) (by rw [foldW_len]; unfold maxLen; omega)
            rw [foldW_len] at h8 ⊢
            exact h8
          · exact HB2.out.trans (HKS.out.to_below (B := w.heap.size) HB2.out.size (fun k hk => by simp at hk))
end Go.Proofs.Ytcpojohpmcnnhaa.A

set_option linter.unusedVariables false
set_option linter.unusedSimpArgs false
namespace Go.Proofs.Ytcpojohpmcnnhaa.A
open Go.RowKit Go.Proofs.YtcpojohpmcnnhaaW.PrintWords Go.Proofs.YtcpojohpmcnnhaaW.PrintLast Go.Proofs.YtcpojohpmcnnhaaW.PrintMore
open Go.Proofs.Ytcpojohpmcnnhaa.PA
def incR : List UInt8 → List UInt8
  | [] => []
  | c :: r => if c = 49 then 48 :: incR r else 49 :: r
def plusB (l : List UInt8) : List UInt8 := (incR l.reverse).reverse
theorem plusB_one (l : List UInt8) : plusB (l ++ [49]) = plusB l ++ [48] := by simp [plusB, incR]
theorem plusB_zero (l : List UInt8) {c : UInt8} (h : c ≠ 49) : plusB (l ++ [c]) = l ++ [49] := by simp [plusB, incR, h]
def BRow (w : World) (g : Nat) (L : List UInt8) : Prop := ∃ C : Array Value, w.heap[g]? = some (.cells C 5 (C.size, C.size + 1)) ∧ L.length ≤ C.size ∧ ∀ k, k < L.length → C[k]? = some (.int .u8 ((L.getD k 0).toNat : Int))
theorem BRow.cell {w : World} {g : Nat} {L : List UInt8} (h : BRow w g L) {k : Nat} (hk : k < L.length) : w.cell? ⟨g, k, none⟩ = some (.int .u8 ((L.getD k 0).toNat : Int)) := by
  obtain ⟨C, h1, h2, h3⟩ := h
  simp only [World.cell?, h1, Option.isSome_none, Bool.false_eq_true, if_false]
  exact h3 k hk
theorem BRow.frozen {w : World} {g : Nat} {L : List UInt8} (h : BRow w g L) {k : Nat} (hk : k < L.length) : w.frozen? ⟨g, k, none⟩ = false := by
  obtain ⟨C, h1, h2, h3⟩ := h
  simp only [World.frozen?, h1]
  simp; omega
theorem BRow.set {w : World} {g : Nat} {L : List UInt8} (h : BRow w g L) {k : Nat} (hk : k < L.length) (c : UInt8) : BRow (w.setCell ⟨g, k, none⟩ (.int .u8 (c.toNat : Int))) g (L.set k c) := by
  obtain ⟨C, h1, h2, h3⟩ := h
  refine ⟨C.setIfInBounds k (.int .u8 (c.toNat : Int)), ?_, by simpa using h2, fun j hj => ?_⟩
  · simp [World.setCell, Array.getElem?_modify, h1]
  · rw [List.length_set] at hj
    by_cases e : k = j
    · subst e
      simp [Array.getElem?_setIfInBounds, List.getD_eq_getElem?_getD, hk]
      omega
    · rw [Array.getElem?_setIfInBounds_ne (by omega)]
      rw [h3 j hj]
      simp [List.getD_eq_getElem?_getD, e]
theorem BRow.size {w : World} {g : Nat} {L : List UInt8} (h : BRow w g L) : g < w.heap.size := by
  obtain ⟨C, h1, _⟩ := h
  exact blk_lt h1
end Go.Proofs.Ytcpojohpmcnnhaa.A
namespace Go.Proofs.Ytcpojohpmcnnhaa.PA
open Go.RowKit Go.Proofs.YtcpojohpmcnnhaaW.PrintWords Go.Proofs.YtcpojohpmcnnhaaW.PrintLast Go.Proofs.YtcpojohpmcnnhaaW.PrintMore
end Go.Proofs.Ytcpojohpmcnnhaa.PA

set_option linter.unusedVariables false
set_option linter.unusedSimpArgs false
namespace Go.Proofs.Ytcpojohpmcnnhaa.A
open Go.RowKit Go.Proofs.YtcpojohpmcnnhaaW.PrintWords Go.Proofs.YtcpojohpmcnnhaaW.PrintLast Go.Proofs.YtcpojohpmcnnhaaW.PrintMore
theorem digI_succ (n : Int) (i : Nat) : digI n (i + 1) = digI (n / 2) i := by
  unfold digI
  have e : (2 : Int) ^ (i + 1) = 2 * 2 ^ i := by rw [Int.pow_succ, Int.mul_comm]
  have h := @Int.ediv_ediv n 2 (2 ^ i)
  rw [if_neg (fun h => by omega), Int.sub_zero] at h
  rw [e, h]
theorem digs_succ (n : Int) (c : Nat) : digs n (c + 1) 0 = digs (n / 2) c 0 ++ [dig8 n 0] := by
  rw [digs_snoc n (by omega)]
  congr 1
  unfold digs
  rw [show c + 1 - (0 + 1) = c by omega, Nat.sub_zero]
  refine List.map_congr_left (fun j hj => ?_)
  have := List.mem_range.1 hj
  unfold dig8
  rw [show c - j = (c - 1 - j) + 1 by omega, digI_succ]
theorem digs_plus : ∀ (c : Nat) (m : Int), 0 ≤ m → m + 1 < 2 ^ c → plusB (digs m c 0) = digs (m + 1) c 0
  | 0, m, h0, h => by
    rw [Int.pow_zero] at h; omega
  | c + 1, m, h0, h => by
    have e2 : (2 : Int) ^ (c + 1) = 2 ^ c * 2 := Int.pow_succ _ _
    rw [e2] at h
    have d0 : ∀ x : Int, digI x 0 = x % 2 := fun x => by unfold digI; rw [Int.pow_zero, Int.ediv_one]
    rw [digs_succ m, digs_succ (m + 1)]
    rcases (by omega : m % 2 = 0 ∨ m % 2 = 1) with e | e
    · have a1 : dig8 m 0 = 48 := by unfold dig8; rw [d0, e]; rfl
      have a2 : dig8 (m + 1) 0 = 49 := by unfold dig8; rw [d0, show (m + 1) % 2 = 1 by omega]; rfl
      rw [a1, a2, plusB_zero _ (by decide), show (m + 1) / 2 = m / 2 by omega]
    · have a1 : dig8 m 0 = 49 := by unfold dig8; rw [d0, e]; rfl
      have a2 : dig8 (m + 1) 0 = 48 := by unfold dig8; rw [d0, show (m + 1) % 2 = 0 by omega]; rfl
      rw [a1, a2, plusB_one, digs_plus c (m / 2) (by omega) (by omega), show (m + 1) / 2 = m / 2 + 1 by omega]
theorem incR_len : ∀ l : List UInt8, (incR l).length = l.length
  | [] => rfl
  | c :: r => by
    unfold incR
    split
    · simp [incR_len r]
    · simp
theorem plusB_len (l : List UInt8) : (plusB l).length = l.length := by simp [plusB, incR_len]
theorem srt_nodup {key : Nat → Int} {l : List Nat} (h : Srt key l) : l.Nodup := List.Pairwise.imp (fun {a b} hab e => by subst e; unfold lx at hab; omega) h
structure WOk (next : Int) (word : ByteArray) (v : Nat) : Prop where
  le : word.size ≤ v
  is : next < 4294967296 → word.data.toList = digs (next / 2 ^ (32 - word.size)) word.size 0 ∧ ((2 : Int) ^ (32 - word.size)) ∣ next
theorem WOk.next {next : Int} {word : ByteArray} {v : Nat} (h : WOk next word v) (h0 : 0 ≤ next) (hn : next < 4294967296) (hv : v ≤ 32) (hs : word.size = v) :
    word = wordB next (v : Int) ∧ WOk (next + 2 ^ (32 - v)) ⟨(plusB word.data.toList).toArray⟩ v := by
  obtain ⟨h1, h2⟩ := h.is hn
  rw [hs] at h1 h2
  have hp : (0 : Int) < 2 ^ (32 - v) := Int.pow_pos (by omega)
  have hl : (plusB word.data.toList).length = v := by rw [plusB_len, Array.length_toList]; exact hs
  refine ⟨?_, ?_, fun hlt => ⟨?_, ?_⟩⟩
  · unfold wordB
    rw [Int.toNat_natCast, ← h1]
  · show (plusB word.data.toList).toArray.size ≤ v
    rw [List.size_toArray, hl]; exact Nat.le_refl _
  · show plusB word.data.toList = digs _ (plusB word.data.toList).toArray.size 0
    rw [List.size_toArray, hl, h1]
    have e : (next + 2 ^ (32 - v)) / 2 ^ (32 - v) = next / 2 ^ (32 - v) + 1 := by
      rw [Int.add_ediv_of_dvd_left h2, Int.ediv_self (by omega)]
    have hs2 : (⟨(plusB (digs (next / 2 ^ (32 - v)) v 0)).toArray⟩ : ByteArray).size = v := by
      show (plusB (digs (next / 2 ^ (32 - v)) v 0)).toArray.size = v
      rw [List.size_toArray, plusB_len, digs_len]; omega
    rw [hs2]
    rw [e]
    refine digs_plus v _ (Int.ediv_nonneg h0 (by omega)) ?_
    rw [← e]
    refine Int.ediv_lt_of_lt_mul hp ?_
    rw [← Int.pow_add, show v + (32 - v) = 32 by omega]
    exact hlt
  · show (2 : Int) ^ (32 - (plusB word.data.toList).toArray.size) ∣ _
    rw [List.size_toArray, hl]
    exact Int.dvd_add h2 (Int.dvd_refl _)
end Go.Proofs.Ytcpojohpmcnnhaa.A

set_option linter.unusedVariables false
set_option linter.unusedSimpArgs false
namespace Go.Proofs.Ytcpojohpmcnnhaa.AP
open Go.RowKit Go.Proofs.YtcpojohpmcnnhaaW.PrintWords Go.Proofs.YtcpojohpmcnnhaaW.PrintLast Go.Proofs.YtcpojohpmcnnhaaW.PrintMore
open Go.Proofs.Ytcpojohpmcnnhaa.PA Go.Proofs.Ytcpojohpmcnnhaa.A
def cellsP (enc : Nat → Int × Value) (i : Nat) : List Value := [.int .i64 (enc i).1, (enc i).2]
def valP (enc : Nat → Int × Value) (i : Nat) : Value := .agg #[.int .i64 (enc i).1, (enc i).2]
theorem cellsP_len (enc : Nat → Int × Value) (L : List Nat) : (L.flatMap (cellsP enc)).length = L.length * 2 := by
  induction L with
  | nil => rfl
  | cons x L ih => simp [cellsP, ih]; omega
def RowS (enc : Nat → Int × Value) (tail : List Value) (blk : Nat) (L : List Nat) (w : World) : Prop := w.heap[blk]? = some (.cells ((L.flatMap (cellsP enc) ++ tail).toArray) 98 (0, 0))
theorem RowS.frozen {enc : Nat → Int × Value} {tail : List Value} {blk : Nat} {L : List Nat} {w : World} (h : RowS enc tail blk L w) (k : Nat) : w.frozen? ⟨blk, k, none⟩ = false := Lib.frozen_of_heap h k
theorem RowS.cell0 {enc : Nat → Int × Value} {tail : List Value} {blk : Nat} {L : List Nat} {w : World} (h : RowS enc tail blk L w) {A B : List Nat} {x : Nat} (e : L = A ++ x :: B) {k : Nat} (hk : k = A.length) : w.cell? ⟨blk, k * 2, none⟩ = some (.int .i64 (enc x).1) := by
  subst e hk
  unfold RowS at h
  have hl := cellsP_len enc A
  simp only [World.cell?, h, Option.isSome_none, Bool.false_eq_true, if_false, List.getElem?_toArray, List.flatMap_append, List.flatMap_cons, List.append_assoc]
  rw [List.getElem?_append_right (by omega), hl, Nat.sub_self]
  rfl
theorem RowS.cell1 {enc : Nat → Int × Value} {tail : List Value} {blk : Nat} {L : List Nat} {w : World} (h : RowS enc tail blk L w) {A B : List Nat} {x : Nat} (e : L = A ++ x :: B) {k : Nat} (hk : k = A.length) : w.cell? ⟨blk, k * 2 + 1, none⟩ = some (enc x).2 := by
  subst e hk
  unfold RowS at h
  have hl := cellsP_len enc A
  simp only [World.cell?, h, Option.isSome_none, Bool.false_eq_true, if_false, List.getElem?_toArray, List.flatMap_append, List.flatMap_cons, List.append_assoc]
  rw [List.getElem?_append_right (by omega), hl, show A.length * 2 + 1 - A.length * 2 = 1 by omega]
  rfl
theorem RowS.size {enc : Nat → Int × Value} {tail : List Value} {blk : Nat} {L : List Nat} {w : World} (h : RowS enc tail blk L w) : blk < w.heap.size := by
  rcases Nat.lt_or_ge blk w.heap.size with h1 | h1
  · exact h1
  · unfold RowS at h; rw [Array.getElem?_eq_none (by omega)] at h; cases h
theorem RowS.keep {enc : Nat → Int × Value} {tail : List Value} {blk : Nat} {L : List Nat} {w w' : World} (h : RowS enc tail blk L w) (hk : R.Keeps [] w w') : RowS enc tail blk L w' := (hk.block blk h.size (by simp)).trans h
theorem RowS.put {enc : Nat → Int × Value} {tail : List Value} {blk : Nat} {A B : List Nat} {y : Nat} {w : World} (h : RowS enc tail blk (A ++ y :: B) w) {k : Nat} (hk : k = A.length) (x : Nat) : RowS enc tail blk (A ++ x :: B) ((w.setCell ⟨blk, k * 2, none⟩ (.int .i64 (enc x).1)).setCell ⟨blk, k * 2 + 1, none⟩ (enc x).2) := by
  subst hk
  have hl := cellsP_len enc A
  have e : ((w.setCell ⟨blk, A.length * 2, none⟩ (.int .i64 (enc x).1)).setCell ⟨blk, A.length * 2 + 1, none⟩ (enc x).2).heap[blk]? = some (.cells (((((A ++ y :: B).flatMap (cellsP enc) ++ tail).toArray).setIfInBounds (A.length * 2) (.int .i64 (enc x).1)).setIfInBounds (A.length * 2 + 1) (enc x).2) 98 (0, 0)) := by
    unfold RowS at h
    simp [World.setCell, Array.getElem?_modify, h]
  unfold RowS
  rw [e]
  congr 2
  apply Array.ext'
  simp only [List.setIfInBounds_toArray, List.flatMap_append, List.flatMap_cons, List.append_assoc]
  rw [List.set_append, if_neg (by omega), hl, Nat.sub_self, List.set_append, if_neg (by omega), hl, show A.length * 2 + 1 - A.length * 2 = 1 by omega]
  rfl
theorem RowS.swap {enc : Nat → Int × Value} {tail : List Value} {blk : Nat} {L : List Nat} {w : World} (h : RowS enc tail blk L w) {A M B : List Nat} {x y : Nat} (e : L = A ++ x :: (M ++ y :: B)) {i j : Nat} (hi : i = A.length) (hj : j = A.length + 1 + M.length) :
    RowS enc tail blk (A ++ y :: (M ++ x :: B)) ((((w.setCell ⟨blk, i * 2, none⟩ (.int .i64 (enc y).1)).setCell ⟨blk, i * 2 + 1, none⟩ (enc y).2).setCell ⟨blk, j * 2, none⟩ (.int .i64 (enc x).1)).setCell ⟨blk, j * 2 + 1, none⟩ (enc x).2) := by
  subst e
  have h1 := h.put hi y
  rw [show A ++ y :: (M ++ y :: B) = (A ++ y :: M) ++ y :: B by simp] at h1
  have h3 := h1.put (k := j) (by simp; omega) x
  rw [show (A ++ y :: M) ++ x :: B = A ++ y :: (M ++ x :: B) by simp] at h3
  exact h3
set_option maxHeartbeats 4000000 in
set_option maxRecDepth 100000 in
theorem swapRange_c (enc : Nat → Int × Value) (henc : ∀ x, ∃ a n c, (enc x).2 = .slice a n c) (tail : List Value) (blk cap : Nat) (f : Value) (P U M V S : List Nat) (w : World) (h : RowS enc tail blk (P ++ (U ++ (M ++ (V ++ S)))) w) (hl : U.length = V.length) (hn : (P ++ (U ++ (M ++ (V ++ S)))).length < 1000000) :
    Calls Try.prog 105 #[.slice (some ⟨blk, 0, none⟩) (P ++ (U ++ (M ++ (V ++ S)))).length cap, .int .i64 (P.length : Int), .int .i64 ((P.length + U.length + M.length : Nat) : Int), .int .i64 (U.length : Int), f] w fun e w' => e = .returned (.tuple #[]) ∧ R.Keeps [blk] w w' ∧ RowS enc tail blk (P ++ (V ++ (M ++ (U ++ S)))) w' := by
  obtain ⟨N, hN⟩ : ∃ N, (P ++ (U ++ (M ++ (V ++ S)))).length = N := ⟨_, rfl⟩
  have hNs : P.length + U.length + M.length + V.length + S.length = N := by rw [← hN]; simp; omega
  rw [hN] at hn ⊢
  have HR0 := Lib.hid h
  have HL := Lib.hid hl
  clear h hN
  obtain ⟨p, hp⟩ : ∃ p, P.length = p := ⟨_, rfl⟩
  obtain ⟨n, hnn⟩ : ∃ n, U.length = n := ⟨_, rfl⟩
  obtain ⟨m, hm⟩ : ∃ m, M.length = m := ⟨_, rfl⟩
  rw [hp, hnn, hm] at hNs
  rw [← hl, hnn] at hNs
  rw [hp, hnn, hm]
  have HP := Lib.hid (And.intro hp (And.intro hnn hm))
  clear hp hnn hm hl
  go_enter Try.func105, Try.ntmps105
  go_wp2_with fail
  go_loopw [10] (fun v10 wr => ∃ (i : Nat) (U1 U2 V1 V2 : List Nat), v10 = .int .i64 (i : Int) ∧ i ≤ n ∧ Hid (U = U1 ++ U2 ∧ V = V1 ++ V2 ∧ U1.length = i ∧ V1.length = i) ∧ Hid (RowS enc tail blk (P ++ (V1 ++ (U2 ++ (M ++ (U1 ++ (V2 ++ S)))))) wr) ∧ Hid (R.Keeps [blk] w wr)) (fun v10 _ => n - (intOf v10).toNat)
  case atStart => exact ⟨0, [], U, [], V, rfl, Nat.zero_le _, Lib.hid ⟨rfl, rfl, rfl, rfl⟩, HR0, Lib.hid (R.Keeps.refl _ _)⟩
  case round =>
    rename World => wr
    obtain ⟨i, U1, U2, V1, V2, rfl, hi, HD, HR, HK⟩ := hrel
    by_cases hlt : i < n
    · have hlt' : (i : Int) < (n : Int) := by omega
      obtain ⟨u, U3, rfl⟩ : ∃ u U3, U2 = u :: U3 := by
        cases U2 with
        | nil => exfalso; have := HD.out; have h2 := HP.out.2.1; rw [this.1] at h2; simp at h2; omega
        | cons u U3 => exact ⟨u, U3, rfl⟩
      obtain ⟨v, V3, rfl⟩ : ∃ v V3, V2 = v :: V3 := by
        cases V2 with
        | nil => exfalso; have := HD.out; have h2 := HP.out.2.1; have h3 := HL.out; rw [this.2.1] at h3; simp at h3; omega
        | cons v V3 => exact ⟨v, V3, rfl⟩
      obtain ⟨y1, hy1⟩ : ∃ y1, p + i = y1 := ⟨_, rfl⟩
      obtain ⟨y2, hy2⟩ : ∃ y2, p + n + m + i = y2 := ⟨_, rfl⟩
      have hdist : P ++ (V1 ++ (u :: U3 ++ (M ++ (U1 ++ (v :: V3 ++ S))))) = (P ++ V1) ++ u :: ((U3 ++ (M ++ U1)) ++ v :: (V3 ++ S)) := by simp
      have hdist' : P ++ ((V1 ++ [v]) ++ (U3 ++ (M ++ ((U1 ++ [u]) ++ (V3 ++ S))))) = (P ++ V1) ++ v :: ((U3 ++ (M ++ U1)) ++ u :: (V3 ++ S)) := by simp
      have ha : (P ++ V1).length = y1 := by simp [HD.out.2.2.2, HP.out.1, ← hy1]
      have hb : y2 = (P ++ V1).length + 1 + (U3 ++ (M ++ U1)).length := by
        have h1 := HD.out.1
        have h2 := HP.out.2.1
        rw [h1] at h2
        simp at h2
        simp [HD.out.2.2, HP.out, ← hy2]
        have := HD.out.2.2.1
        omega
      have HY := Lib.hid (And.intro ha hb)
      have HDIST := Lib.hid (And.intro hdist hdist')
      have c1 := HR.out.cell0 hdist ha.symm
      have c1b := HR.out.cell1 hdist ha.symm
      have c2 := HR.out.cell0 (A := (P ++ V1) ++ u :: (U3 ++ (M ++ U1))) (x := v) (B := V3 ++ S) (k := y2) (by simp) (by rw [hb]; simp; omega)
      have c2b := HR.out.cell1 (A := (P ++ V1) ++ u :: (U3 ++ (M ++ U1))) (x := v) (B := V3 ++ S) (k := y2) (by simp) (by rw [hb]; simp; omega)
      have f1 := HR.out.frozen (y1 * 2)
      have f2 := HR.out.frozen (y2 * 2)
      have f1b := HR.out.frozen (y1 * 2 + 1)
      have f2b := HR.out.frozen (y2 * 2 + 1)
      obtain ⟨eu, heu⟩ : ∃ eu, (enc u).1 = eu := ⟨_, rfl⟩
      obtain ⟨ev, hev⟩ : ∃ ev, (enc v).1 = ev := ⟨_, rfl⟩
      obtain ⟨au, nu, cu, hfu⟩ := henc u
      obtain ⟨av, nv, cv, hfv⟩ := henc v
      rw [heu] at c1
      rw [hev] at c2
      rw [hfu] at c1b
      rw [hfv] at c2b
      have HEN := Lib.hid (And.intro heu (And.intro hev (And.intro hfu hfv)))
      clear heu hev hfu hfv ha hb hdist hdist'
      have g1 : (p : Int) + (i : Int) = (y1 : Int) := by omega
      have g2 : ((p + n + m : Nat) : Int) + (i : Int) = (y2 : Int) := by omega
      have b1 : (y1 : Int) < (N : Int) := by omega
      have b2 : (y2 : Int) < (N : Int) := by omega
      have b3 : IntKind.i64.wrap (y1 : Int) = (y1 : Int) := IntWalk.i64_in _ (by omega)
      have b4 : IntKind.i64.wrap (y2 : Int) = (y2 : Int) := IntWalk.i64_in _ (by omega)
      have mixed : Try.prog.follows Departure.mixedOrders = true := by kernel_rfl
      go_wp2_with fail
      go_big_region_o
      all_goals go_wp2_with fail
      all_goals
        refine ⟨⟨i + 1, U1 ++ [u], U3, V1 ++ [v], V3, by go_num, by omega, Lib.hid ⟨by rw [HD.out.1]; simp, by rw [HD.out.2.1]; simp, by simp [HD.out.2.2.1], by simp [HD.out.2.2.2]⟩, ?_, Lib.hid ((((((HK.out).setCell (by simp) _).setCell (by simp) _).setCell (by simp) _).setCell (by simp) _).drew)⟩, by simp [intOf]; omega⟩
        have h5 := HR.out.swap HDIST.out.1 HY.out.1.symm HY.out.2
        rw [HEN.out.1, HEN.out.2.1, HEN.out.2.2.1, HEN.out.2.2.2, ← HDIST.out.2] at h5
        exact Lib.hid h5
    · obtain rfl : i = n := by omega
      go_wp2_with fail
      go_end0
      obtain ⟨h1, h2, h3, h4⟩ := HD.out
      have e1 : U2 = [] := by
        have := HP.out.2.1
        rw [h1] at this
        simp at this
        exact List.eq_nil_of_length_eq_zero (by omega)
      have e2 : V2 = [] := by
        have := HP.out.2.1
        have hh := HL.out
        rw [h2] at hh
        simp at hh
        exact List.eq_nil_of_length_eq_zero (by omega)
      subst e1 e2
      simp only [List.append_nil] at h1 h2
      subst h1 h2
      exact ⟨rfl, HK.out, by simpa using HR.out⟩
end Go.Proofs.Ytcpojohpmcnnhaa.AP

set_option linter.unusedVariables false
set_option linter.unusedSimpArgs false
namespace Go.Proofs.Ytcpojohpmcnnhaa.AP
open Go.RowKit Go.Proofs.YtcpojohpmcnnhaaW.PrintWords Go.Proofs.YtcpojohpmcnnhaaW.PrintLast Go.Proofs.YtcpojohpmcnnhaaW.PrintMore
open Go.Proofs.Ytcpojohpmcnnhaa.PA Go.Proofs.Ytcpojohpmcnnhaa.A
theorem swapRange_at (enc : Nat → Int × Value) (henc : ∀ x, ∃ a n c, (enc x).2 = .slice a n c) (tail : List Value) (blk cap : Nat) (f : Value) (P U M V S L : List Nat) (N : Nat) (i j n : Int) (w : World) (hL : L = P ++ (U ++ (M ++ (V ++ S)))) (h : RowS enc tail blk L w) (hN : L.length = N) (hl : U.length = V.length) (hn : N < 1000000)
    (hi : i = (P.length : Int)) (hj : j = ((P.length + U.length + M.length : Nat) : Int)) (hk : n = (U.length : Int)) :
    Calls Try.prog 105 #[.slice (some ⟨blk, 0, none⟩) N cap, .int .i64 i, .int .i64 j, .int .i64 n, f] w fun e w' => e = .returned (.tuple #[]) ∧ R.Keeps [blk] w w' ∧ RowS enc tail blk (P ++ (V ++ (M ++ (U ++ S)))) w' := by
  subst hL hi hj hk hN
  exact swapRange_c enc henc tail blk cap f P U M V S w h hl hn
set_option maxHeartbeats 4000000 in
set_option maxRecDepth 100000 in
theorem rotate_c (enc : Nat → Int × Value) (henc : ∀ x, ∃ a n c, (enc x).2 = .slice a n c) (tail : List Value) (blk cap : Nat) (f : Value) (P U V S : List Nat) (N : Nat) (a m b : Int) (w : World) (h : RowS enc tail blk (P ++ (U ++ (V ++ S))) w) (hN : (P ++ (U ++ (V ++ S))).length = N) (hn : N < 1000000)
    (ha : a = (P.length : Int)) (hm : m = ((P.length + U.length : Nat) : Int)) (hb : b = ((P.length + U.length + V.length : Nat) : Int)) (hU : 0 < U.length) (hV : 0 < V.length) :
    Calls Try.prog 103 #[.slice (some ⟨blk, 0, none⟩) N cap, .int .i64 a, .int .i64 m, .int .i64 b, f] w fun e w' => e = .returned (.tuple #[]) ∧ R.Keeps [blk] w w' ∧ RowS enc tail blk (P ++ (V ++ (U ++ S))) w' := by
  have hNs : P.length + U.length + V.length + S.length = N := by rw [← hN]; simp; omega
  have HR0 := Lib.hid h
  obtain ⟨T, hT⟩ : ∃ T, P ++ (V ++ (U ++ S)) = T := ⟨_, rfl⟩
  have HT := Lib.hid hT
  rw [hT]
  clear h hT
  have e1 : m - a = (U.length : Int) := by omega
  have e2 : b - m = (V.length : Int) := by omega
  obtain ⟨mm, hmm⟩ : ∃ mm : Nat, P.length + U.length = mm := ⟨_, rfl⟩
  rw [hmm] at hm
  have HMM := Lib.hid hmm
  have HNN := Lib.hid hN
  have w1 : IntKind.i64.wrap (U.length : Int) = (U.length : Int) := IntWalk.i64_in _ (by omega)
  have w2 : IntKind.i64.wrap (V.length : Int) = (V.length : Int) := IntWalk.i64_in _ (by omega)
  have hmN : mm < 1000000 := by omega
  subst hm
  clear hb ha hN
  go_enter Try.func103, Try.ntmps103
  go_wp2_with fail
  try rw [e1]
  try rw [e2]
  clear e1 e2 w1 w2
  go_loopw [10, 11] (fun v10 v11 wr => ∃ (i j : Nat) (P' U' V' S' : List Nat), v10 = .int .i64 (i : Int) ∧ v11 = .int .i64 (j : Int) ∧ 0 < i ∧ 0 < j ∧ i ≤ mm ∧ mm + j ≤ N ∧ Hid (P' ++ (V' ++ (U' ++ S')) = T ∧ U'.length = i ∧ V'.length = j ∧ P'.length + i = mm ∧ (P' ++ (U' ++ (V' ++ S'))).length = N) ∧ Hid (RowS enc tail blk (P' ++ (U' ++ (V' ++ S'))) wr) ∧ Hid (R.Keeps [blk] w wr)) (fun v10 v11 _ => (intOf v10).toNat + (intOf v11).toNat)
  case atStart => exact ⟨U.length, V.length, P, U, V, S, rfl, rfl, hU, hV, by omega, by omega, Lib.hid ⟨HT.out, rfl, rfl, HMM.out, HNN.out⟩, HR0, Lib.hid (R.Keeps.refl _ _)⟩
  case round =>
    rename World => wr
    obtain ⟨i, j, P', U', V', S', rfl, rfl, hi0, hj0, him, hjN, HD, HR, HK⟩ := hrel
    by_cases hij : i = j
    · subst hij
      have e3 : (mm : Int) - (i : Int) = (P'.length : Int) := by have := HD.out.2.2.2.1; omega
      obtain ⟨q, hq⟩ : ∃ q, P'.length = q := ⟨_, rfl⟩
      rw [hq] at e3
      have hqN : q < 1000000 := by omega
      have HQ := Lib.hid hq
      clear hq
      have w3 : IntKind.i64.wrap (q : Int) = (q : Int) := IntWalk.i64_in _ (by omega)
      go_wp2_with fail
      refine (swapRange_at enc henc tail blk cap f P' U' [] V' S' _ N _ _ _ wr rfl HR.out HD.out.2.2.2.2 (by have := HD.out; omega) hn (by have := HQ.out; omega) (by have := HD.out; simp; omega) (by have := HD.out; omega)).mono ?_
      rintro e w4 ⟨rfl, hk4, hr4⟩
      go_wp2_with fail
      go_end0
      refine ⟨rfl, HK.out.trans hk4 (fun k hk _ => hk), ?_⟩
      rw [← HD.out.1]
      simpa using hr4
    · have hne : (i : Int) ≠ (j : Int) := by omega
      by_cases hgt : j < i
      · have hgt' : (j : Int) < (i : Int) := by omega
        obtain ⟨q, hq⟩ : ∃ q : Nat, (mm : Int) - (i : Int) = (q : Int) := ⟨mm - i, by omega⟩
        obtain ⟨d, hd⟩ : ∃ d : Nat, (i : Int) - (j : Int) = (d : Int) := ⟨i - j, by omega⟩
        have w3 : IntKind.i64.wrap (q : Int) = (q : Int) := IntWalk.i64_in _ (by omega)
        have w4 : IntKind.i64.wrap (d : Int) = (d : Int) := IntWalk.i64_in _ (by omega)
        obtain ⟨A, B, hU', hA⟩ : ∃ A B, U' = A ++ B ∧ A.length = j := ⟨U'.take j, U'.drop j, (List.take_append_drop _ _).symm, by have := HD.out; simp; omega⟩
        subst hU'
        have hB : B.length = i - j := by have := HD.out.2.1; simp at this; omega
        have HL := Lib.hid (And.intro hA hB)
        clear hA hB
        go_wp2_with fail
        refine (swapRange_at enc henc tail blk cap f P' A B V' S' _ N _ _ _ wr (by simp) HR.out HD.out.2.2.2.2 (by have := HD.out; have := HL.out; omega) hn (by have := HD.out; omega) (by have := HD.out; have := HL.out; omega) (by have := HL.out; omega)).mono ?_
        rintro e w5 ⟨rfl, hk5, hr5⟩
        have HK5 := Lib.hid (HK.out.trans hk5 (fun k hk _ => hk))
        have HR5 := Lib.hid hr5
        clear hk5 hr5
        go_wp2_with fail
        refine ⟨⟨d, j, P' ++ V', B, A, S', rfl, rfl, by omega, hj0, by omega, by omega, Lib.hid ⟨by rw [← HD.out.1]; simp, by have := HL.out.2; omega, HL.out.1, by have := HD.out; simp; omega, by have := HD.out; have := HL.out; simp at this ⊢; simp at *; omega⟩, ?_, HK5⟩, by simp [intOf]; omega⟩
        have := HR5.out
        exact Lib.hid (by simpa using this)
      · have hgt' : ¬ (j : Int) < (i : Int) := by omega
        obtain ⟨q, hq⟩ : ∃ q : Nat, (mm : Int) - (i : Int) = (q : Int) := ⟨mm - i, by omega⟩
        obtain ⟨r, hr⟩ : ∃ r : Nat, (mm : Int) + (j : Int) = (r : Int) := ⟨mm + j, by omega⟩
        obtain ⟨t, ht⟩ : ∃ t : Nat, (r : Int) - (i : Int) = (t : Int) := ⟨r - i, by omega⟩
        obtain ⟨d, hd⟩ : ∃ d : Nat, (j : Int) - (i : Int) = (d : Int) := ⟨j - i, by omega⟩
        have w3 : IntKind.i64.wrap (q : Int) = (q : Int) := IntWalk.i64_in _ (by omega)
        have w4 : IntKind.i64.wrap (r : Int) = (r : Int) := IntWalk.i64_in _ (by omega)
        have w5 : IntKind.i64.wrap (t : Int) = (t : Int) := IntWalk.i64_in _ (by omega)
        have w6 : IntKind.i64.wrap (d : Int) = (d : Int) := IntWalk.i64_in _ (by omega)
        obtain ⟨A, B, hV', hB⟩ : ∃ A B, V' = A ++ B ∧ B.length = i := ⟨V'.take (j - i), V'.drop (j - i), (List.take_append_drop _ _).symm, by have := HD.out; simp; omega⟩
        subst hV'
        have hA : A.length = j - i := by have := HD.out.2.2.1; simp at this; omega
        have HL := Lib.hid (And.intro hA hB)
        clear hA hB
        go_wp2_with fail
        refine (swapRange_at enc henc tail blk cap f P' U' A B S' _ N _ _ _ wr (by simp) HR.out HD.out.2.2.2.2 (by have := HD.out; have := HL.out; omega) hn (by have := HD.out; omega) (by have := HD.out; have := HL.out; omega) (by have := HD.out; omega)).mono ?_
        rintro e w5 ⟨rfl, hk5, hr5⟩
        have HK5 := Lib.hid (HK.out.trans hk5 (fun k hk _ => hk))
        have HR5 := Lib.hid hr5
        clear hk5 hr5
        go_wp2_with fail
        refine ⟨⟨i, d, P', B, A, U' ++ S', rfl, rfl, hi0, by omega, him, by omega, Lib.hid ⟨by rw [← HD.out.1]; simp, HL.out.2, by have := HL.out.1; omega, by have := HD.out; omega, by have := HD.out; have := HL.out; simp at *; omega⟩, ?_, HK5⟩, by simp [intOf]; omega⟩
        have := HR5.out
        exact Lib.hid (by simpa using this)
end Go.Proofs.Ytcpojohpmcnnhaa.AP

set_option linter.unusedVariables false
set_option linter.unusedSimpArgs false
namespace Go.Proofs.Ytcpojohpmcnnhaa.AP
open Go.RowKit Go.Proofs.YtcpojohpmcnnhaaW.PrintWords Go.Proofs.YtcpojohpmcnnhaaW.PrintLast Go.Proofs.YtcpojohpmcnnhaaW.PrintMore
open Go.Proofs.Ytcpojohpmcnnhaa.PA Go.Proofs.Ytcpojohpmcnnhaa.A
theorem set4_comm (w : World) {b i j : Nat} {u1 u2 v1 v2 : Value} (h : i ≠ j) : (((w.setCell ⟨b, i * 2, none⟩ u1).setCell ⟨b, i * 2 + 1, none⟩ u2).setCell ⟨b, j * 2, none⟩ v1).setCell ⟨b, j * 2 + 1, none⟩ v2 = (((w.setCell ⟨b, j * 2, none⟩ v1).setCell ⟨b, j * 2 + 1, none⟩ v2).setCell ⟨b, i * 2, none⟩ u1).setCell ⟨b, i * 2 + 1, none⟩ u2 := by
  rw [setCell_comm (w.setCell ⟨b, i * 2, none⟩ u1) (i := i * 2 + 1) (j := j * 2) (by omega), setCell_comm _ (i := i * 2 + 1) (j := j * 2 + 1) (by omega), setCell_comm w (i := i * 2) (j := j * 2) (by omega), setCell_comm (w.setCell ⟨b, j * 2, none⟩ v1) (i := i * 2) (j := j * 2 + 1) (by omega)]
def CmpS (key : Nat → Int) (enc : Nat → Int × Value) (n blk g : Nat) (cb : Array Value) (w0 : World) : Prop := ∀ W, R.Keeps [blk] w0 W → ∀ x y, x < n → y < n → Calls Try.prog g (#[valP enc x, valP enc y] ++ cb) W fun e w' => ∃ c, e = .returned (.int .i64 c) ∧ (c < 0 ↔ key x < key y) ∧ Below W.heap.size W w'
def Merged (key : Nat → Int) (enc : Nat → Int × Value) (tail : List Value) (blk : Nat) (P X Y S : List Nat) (w : World) (e : Ending) (w' : World) : Prop :=
  e = .returned (.tuple #[]) ∧ ∃ Z : List Nat, Z.Perm (X ++ Y) ∧ Srt key Z ∧ R.Keeps [blk] w w' ∧ RowS enc tail blk (P ++ (Z ++ S)) w'
set_option maxHeartbeats 4000000 in
set_option maxRecDepth 100000 in
theorem merge1_c {key : Nat → Int} {enc : Nat → Int × Value} (henc : ∀ x, ∃ a n c, (enc x).2 = .slice a n c) {tail : List Value} {blk cap n g : Nat} {cb : Array Value} {w0 : World} (eg : A.Enters g) (hC : CmpS key enc n blk g cb w0)
    (P : List Nat) (x : Nat) (Y S : List Nat) (N : Nat) (w : World) (hK0 : R.Keeps [blk] w0 w) (h : RowS enc tail blk (P ++ ([x] ++ (Y ++ S))) w) (hN : (P ++ ([x] ++ (Y ++ S))).length = N) (hn : N < 1000000)
    (hY0 : 0 < Y.length) (hY : Srt key Y) (hxy : ∀ y, y ∈ Y → x < y) (hx : x < n) (hy : ∀ y, y ∈ Y → y < n) :
    Calls Try.prog 98 #[.slice (some ⟨blk, 0, none⟩) N cap, .int .i64 (P.length : Int), .int .i64 ((P.length + 1 : Nat) : Int), .int .i64 ((P.length + 1 + Y.length : Nat) : Int), .func (.func g) #[] cb] w (Merged key enc tail blk P [x] Y S w) := by
  unfold A.Enters at eg
  have mixed : Try.prog.follows Departure.mixedOrders = true := by kernel_rfl
  have hNs : P.length + 1 + Y.length + S.length = N := by rw [← hN]; simp; omega
  have HR0 := Lib.hid h
  have HC := Lib.hid hC
  have HK0 := Lib.hid hK0
  have HXY := Lib.hid hxy
  have HY := Lib.hid hY
  have HYN := Lib.hid hy
  obtain ⟨a, ha⟩ : ∃ a, P.length = a := ⟨_, rfl⟩
  obtain ⟨l, hl⟩ : ∃ l, Y.length = l := ⟨_, rfl⟩
  rw [ha, hl] at hNs
  rw [hl] at hY0
  rw [ha, hl]
  have HL := Lib.hid (And.intro ha hl)
  clear h hC hK0 hxy hY hy hN ha hl
  obtain ⟨m, hm⟩ : ∃ m, a + 1 = m := ⟨_, rfl⟩
  obtain ⟨b, hb⟩ : ∃ b, m + l = b := ⟨_, rfl⟩
  rw [hm, hb]
  have e1 : (m : Int) - (a : Int) = 1 := by omega
  have ham : a < 1000000 := by omega
  have hbm : b < 1000000 := by omega
  go_enter Try.func98, Try.ntmps98
  go_wp2_with fail
  go_loopw [10, 11] (fun v10 v11 wr => ∃ (i j : Nat), v10 = .int .i64 ((m + i : Nat) : Int) ∧ v11 = .int .i64 ((m + j : Nat) : Int) ∧ i ≤ j ∧ j ≤ l ∧ Hid (i = 0 ∨ lx key (Y.getD (i - 1) 0) x) ∧ Hid (j = l ∨ lx key x (Y.getD j 0)) ∧ Hid (R.Keeps [] w wr)) (fun v10 v11 _ => (intOf v11).toNat - (intOf v10).toNat)
  case atStart => exact ⟨0, l, rfl, by rw [hb], by omega, Nat.le_refl _, Lib.hid (.inl rfl), Lib.hid (.inl rfl), Lib.hid (R.Keeps.refl _ _)⟩
  case round =>
    rename World => wr
    obtain ⟨i, j, rfl, rfl, hij, hjl, HI, HJ, HK⟩ := hrel
    by_cases hlt : i < j
    · obtain ⟨q, hq⟩ : ∃ q, (i + j) / 2 = q := ⟨_, rfl⟩
      obtain ⟨c, hc⟩ : ∃ c, m + q = c := ⟨_, rfl⟩
      obtain ⟨i1, hi1⟩ : ∃ i1, m + i = i1 := ⟨_, rfl⟩
      obtain ⟨j1, hj1⟩ : ∃ j1, m + j = j1 := ⟨_, rfl⟩
      rw [hi1, hj1]
      have hlt' : (i1 : Int) < (j1 : Int) := by omega
      obtain ⟨t, ht⟩ : ∃ t, i1 + j1 = t := ⟨_, rfl⟩
      have hti : (i1 : Int) + (j1 : Int) = (t : Int) := by omega
      have htc : t / 2 = c := by omega
      have htc' : (t : Int) / 2 = (c : Int) := by omega
      have wt := wr_small (x := t) (by omega)
      have wc := wr_small (x := c) (by omega)
      have wc1 := wr_small (x := c + 1) (by omega)
      have hcN : (c : Int) < (N : Int) := by omega
      have haN : (a : Int) < (N : Int) := by omega
      obtain ⟨yq, hyq⟩ : ∃ yq, Y.getD q 0 = yq := ⟨_, rfl⟩
      have hql : q < Y.length := by rw [HL.out.2]; omega
      have hmem : yq ∈ Y := by rw [← hyq, List.getD_eq_getElem?_getD, List.getElem?_eq_getElem hql]; exact List.getElem_mem hql
      have hxq := HXY.out yq hmem
      have hyn := HYN.out yq hmem
      have hsplit : Y = Y.take q ++ yq :: Y.drop (q + 1) := by
        have : yq = Y[q] := by rw [← hyq, List.getD_eq_getElem?_getD, List.getElem?_eq_getElem hql]; rfl
        rw [this, List.getElem_cons_drop, List.take_append_drop]
      have hRr := HR0.out.keep HK.out
      have c1 : wr.cell? ⟨blk, c * 2, none⟩ = some (.int .i64 (enc yq).1) := hRr.cell0 (A := P ++ [x] ++ Y.take q) (x := yq) (B := Y.drop (q + 1) ++ S) (by rw [List.append_assoc, List.append_assoc, ← List.cons_append, ← List.append_assoc (Y.take q), ← hsplit]) (by simp [HL.out.1]; omega)
      have c1b : wr.cell? ⟨blk, c * 2 + 1, none⟩ = some (enc yq).2 := hRr.cell1 (A := P ++ [x] ++ Y.take q) (x := yq) (B := Y.drop (q + 1) ++ S) (by rw [List.append_assoc, List.append_assoc, ← List.cons_append, ← List.append_assoc (Y.take q), ← hsplit]) (by simp [HL.out.1]; omega)
      have c2 : wr.cell? ⟨blk, a * 2, none⟩ = some (.int .i64 (enc x).1) := hRr.cell0 (A := P) (x := x) (B := Y ++ S) rfl HL.out.1.symm
      have c2b : wr.cell? ⟨blk, a * 2 + 1, none⟩ = some (enc x).2 := hRr.cell1 (A := P) (x := x) (B := Y ++ S) rfl HL.out.1.symm
      obtain ⟨eu, heu⟩ : ∃ x_, (enc yq).1 = x_ := ⟨_, rfl⟩
      obtain ⟨au, nu, cu, hfu⟩ := henc yq
      have hvu : Value.agg #[.int .i64 eu, .slice au nu cu] = valP enc yq := by unfold valP; rw [heu, hfu]
      obtain ⟨ev, hev⟩ : ∃ x_, (enc x).1 = x_ := ⟨_, rfl⟩
      obtain ⟨av, nv, cv, hfv⟩ := henc x
      have hvv : Value.agg #[.int .i64 ev, .slice av nv cv] = valP enc x := by unfold valP; rw [hev, hfv]
      rw [heu] at c1
      rw [hfu] at c1b
      rw [hev] at c2
      rw [hfv] at c2b
      have CE : Hid (∀ w', R.Keeps [] wr w' → w'.cell? ⟨blk, c * 2, none⟩ = some (.int .i64 eu) ∧ w'.cell? ⟨blk, c * 2 + 1, none⟩ = some (.slice au nu cu) ∧ w'.cell? ⟨blk, a * 2, none⟩ = some (.int .i64 ev) ∧ w'.cell? ⟨blk, a * 2 + 1, none⟩ = some (.slice av nv cv)) := Lib.hid (fun w' hw => ⟨hw.cell c1 (by simp), hw.cell c1b (by simp), hw.cell c2 (by simp), hw.cell c2b (by simp)⟩)
      have HKW := Lib.hid (HK0.out.trans HK.out (fun k hk => by simp at hk))
      have HQ := Lib.hid hyq
      have HEN := Lib.hid (And.intro (And.intro heu hfu) (And.intro (And.intro hev hfv) (And.intro hvu hvv)))
      clear hvu hvv
      clear hsplit hmem hyq c1 c1b c2 c2b hRr hql
      go_wp2_with fail
      apply R.wp_region_text [0, 1, 2, 3, 4, 5, 6, 7, 8] [9, 10] 11 (R.Keeps [] wr)
      case hm => kernel_rfl
      case hB => kernel_rfl
      case hd => rfl
      case hQ => exact fun _ _ _ _ _ h => h
      case hS => exact (R.Keeps.refl _ _).drew
      case hF =>
        intro w' hS
        obtain ⟨y0, y0b, y1, y1b⟩ := CE.out w' hS
        clear hS
        simp only [R.pickC, List.filterMap_cons, List.getElem?_toArray, List.getElem?_cons_zero, List.getElem?_cons_succ, List.filterMap_nil]
        (with_reducible refine R.wpStill_plain rfl (fun K hK => ?_)); go_simp; with_reducible refine hK _ ?_; clear hK K
        (with_reducible refine R.wpStill_plain rfl (fun K hK => ?_)); go_simp; with_reducible refine hK _ ?_; clear hK K
        (with_reducible refine R.wpStill_plain rfl (fun K hK => ?_)); go_simp; with_reducible refine hK _ ?_; clear hK K
        (with_reducible refine R.wpStill_plain rfl (fun K hK => ?_)); go_simp; with_reducible refine hK _ ?_; clear hK K
        (with_reducible refine R.wpStill_plain rfl (fun K hK => ?_)); go_simp; with_reducible refine hK _ ?_; clear hK K
        (with_reducible refine R.wpStill_plain rfl (fun K hK => ?_)); go_simp; with_reducible refine hK _ ?_; clear hK K
        (with_reducible refine R.wpStill_plain rfl (fun K hK => ?_)); go_simp; with_reducible refine hK _ ?_; clear hK K
        (with_reducible refine R.wpStill_plain rfl (fun K hK => ?_)); go_simp; with_reducible refine hK _ ?_; clear hK K
        (with_reducible refine R.wpStill_plain rfl (fun K hK => ?_)); go_simp; with_reducible refine hK _ ?_; clear hK K
        exact wpStill_nil rfl
      case hC =>
        simp only [R.chainOf, List.getElem?_toArray, List.getElem?_cons_zero, List.getElem?_cons_succ, Nat.reduceBNe, Bool.and_true, Bool.and_false, Bool.false_and]
        refine R.wpSeq_same (fun K hK => ?_)
        go_simp
        rw [HEN.out.2.2.1, HEN.out.2.2.2]
        refine (HC.out _ HKW.out.drew yq x hyn hx).mono ?_
        rintro e w2 ⟨cr, rfl, hcr, hB2⟩
        have hK2 : R.Keeps [] wr w2 := ((R.Keeps.refl [] _).drew).trans (R.Keeps.of_below [] hB2) (fun k hk => by simp at hk)
        refine hK _ _ hK2 ?_
        clear hK K
        have HK2 := Lib.hid hK2
        clear hB2 hK2
        by_cases hneg : cr < 0
        · have HNEG : Hid (lx key yq x) := Lib.hid (.inl (hcr.1 hneg))
          clear hcr
          refine R.wpSeq_same (fun K hK => ?_)
          go_simp
          with_reducible refine hK _ _ HK2.out ?_
          clear hK K
          refine R.wpSeq_nil ?_
          go_wp2_with fail
          refine ⟨⟨q + 1, j, by go_num, by go_num, by omega, hjl, Lib.hid (.inr (by rw [Nat.add_sub_cancel, HQ.out]; exact HNEG.out)), HJ, Lib.hid (HK.out.trans HK2.out (fun k hk _ => hk))⟩, by simp [intOf]; omega⟩
        · have HNEG : Hid (lx key x yq) := Lib.hid (lx.not (fun hh => hneg (hcr.2 ((lx_right hxq).1 hh))) (by omega))
          have hnn : decide (cr < 0) = false := decide_eq_false hneg
          clear hcr
          refine R.wpSeq_same (fun K hK => ?_)
          go_simp
          with_reducible refine hK _ _ HK2.out ?_
          clear hK K
          refine R.wpSeq_nil ?_
          go_wp2_with fail
          refine ⟨⟨i, q, by go_num, by go_num, by omega, by omega, HI, Lib.hid (.inr (by rw [HQ.out]; exact HNEG.out)), Lib.hid (HK.out.trans HK2.out (fun k hk _ => hk))⟩, by simp [intOf]; omega⟩
    · obtain rfl : i = j := by omega
      obtain ⟨i1, hi1⟩ : ∃ i1, m + i = i1 := ⟨_, rfl⟩
      obtain ⟨z1, hz1⟩ : ∃ z1, a + i = z1 := ⟨_, rfl⟩
      rw [hi1]
      have hzi : (i1 : Int) - 1 = (z1 : Int) := by omega
      have wz := wr_small (x := z1) (by omega)
      have hil : i ≤ Y.length := by rw [HL.out.2]; omega
      have hti : (Y.take i).length = i := by simp; omega
      have HTI := Lib.hid hti
      have HR1 : Hid (RowS enc tail blk (P ++ ([] ++ (x :: (Y.take i ++ (Y.drop i ++ S))))) wr) := Lib.hid (by have := HR0.out.keep HK.out; rw [← List.append_assoc (Y.take i), List.take_append_drop]; exact this)
      clear hti
      go_wp2_with fail
      go_loopw [13] (fun v13 wq => ∃ (A B : List Nat), v13 = .int .i64 ((a + A.length : Nat) : Int) ∧ A.length ≤ i ∧ Hid (Y.take i = A ++ B) ∧ Hid (RowS enc tail blk (P ++ (A ++ (x :: (B ++ (Y.drop i ++ S))))) wq) ∧ Hid (R.Keeps [blk] w wq)) (fun v13 _ => z1 - (intOf v13).toNat)
      case atStart => exact ⟨[], Y.take i, rfl, Nat.zero_le _, Lib.hid rfl, HR1, Lib.hid (HK.out.mono (fun k hk => by simp at hk))⟩
      case round =>
        rename World => wq
        obtain ⟨A, B, rfl, hAi, HAB, HRq, HKq⟩ := hrel
        obtain ⟨k, hk⟩ : ∃ k, a + A.length = k := ⟨_, rfl⟩
        rw [hk]
        by_cases hlt2 : k < z1
        · obtain ⟨y, B', rfl⟩ : ∃ y B', B = y :: B' := by
            cases B with
            | nil => exfalso; have h1 := HTI.out; rw [HAB.out] at h1; simp at h1; omega
            | cons y B' => exact ⟨y, B', rfl⟩
          have hlt2' : (k : Int) < (z1 : Int) := by omega
          obtain ⟨k1, hk1⟩ : ∃ k1, k + 1 = k1 := ⟨_, rfl⟩
          have hkk : (k : Int) + 1 = (k1 : Int) := by omega
          have wk := wr_small (x := k1) (by omega)
          have b1 : (k : Int) < (N : Int) := by omega
          have b2 : (k1 : Int) < (N : Int) := by omega
          have hsp : P ++ (A ++ (x :: (y :: B' ++ (Y.drop i ++ S)))) = (P ++ A) ++ x :: ([] ++ y :: (B' ++ (Y.drop i ++ S))) := by simp
          have ha : k = (P ++ A).length := by simp [HL.out.1, ← hk]
          have hb : k1 = (P ++ A).length + 1 + ([] : List Nat).length := by rw [← ha]; simp; omega
          have c1 : wq.cell? ⟨blk, k * 2, none⟩ = some (.int .i64 (enc x).1) := HRq.out.cell0 hsp ha
          have c1b : wq.cell? ⟨blk, k * 2 + 1, none⟩ = some (enc x).2 := HRq.out.cell1 hsp ha
          have c2 : wq.cell? ⟨blk, k1 * 2, none⟩ = some (.int .i64 (enc y).1) := HRq.out.cell0 (A := (P ++ A) ++ [x]) (x := y) (B := B' ++ (Y.drop i ++ S)) (by simp) (by rw [hb]; simp; omega)
          have c2b : wq.cell? ⟨blk, k1 * 2 + 1, none⟩ = some (enc y).2 := HRq.out.cell1 (A := (P ++ A) ++ [x]) (x := y) (B := B' ++ (Y.drop i ++ S)) (by simp) (by rw [hb]; simp; omega)
          have f1 := HRq.out.frozen (k * 2)
          have f1b := HRq.out.frozen (k * 2 + 1)
          have f2 := HRq.out.frozen (k1 * 2)
          have f2b := HRq.out.frozen (k1 * 2 + 1)
          obtain ⟨eu, heu⟩ : ∃ x_, (enc x).1 = x_ := ⟨_, rfl⟩
          obtain ⟨au, nu, cu, hfu⟩ := henc x
          have hvu : Value.agg #[.int .i64 eu, .slice au nu cu] = valP enc x := by unfold valP; rw [heu, hfu]
          obtain ⟨ev, hev⟩ : ∃ x_, (enc y).1 = x_ := ⟨_, rfl⟩
          obtain ⟨av, nv, cv, hfv⟩ := henc y
          have hvv : Value.agg #[.int .i64 ev, .slice av nv cv] = valP enc y := by unfold valP; rw [hev, hfv]
          rw [heu] at c1
          rw [hfu] at c1b
          rw [hev] at c2
          rw [hfv] at c2b
          have HEN := Lib.hid (And.intro (And.intro heu hfu) (And.intro (And.intro hev hfv) (And.intro hvu hvv)))
          clear hvu hvv
          have HSP := Lib.hid (And.intro hsp (And.intro ha hb))
          have HKA := Lib.hid hk
          clear heu hfu hev hfv ha hb hsp hk
          go_wp2_with fail
          go_big_region_o
          all_goals go_wp2_with fail
          all_goals
            refine ⟨⟨A ++ [y], B', by simp only [List.length_append, List.length_cons, List.length_nil]; have := HKA.out; congr 1; omega, by simp only [List.length_append, List.length_cons, List.length_nil]; have := HKA.out; omega, Lib.hid (by rw [HAB.out]; simp), ?_, Lib.hid ((((((HKq.out).setCell (by simp) _).setCell (by simp) _).setCell (by simp) _).setCell (by simp) _).drew)⟩, by simp [intOf]; omega⟩
            have h5 := HRq.out.swap HSP.out.1 HSP.out.2.1 HSP.out.2.2
            rw [HEN.out.1.1, HEN.out.1.2, HEN.out.2.1.1, HEN.out.2.1.2] at h5
            exact Lib.hid (by simpa using h5.keep ((R.Keeps.refl [] _).drew))
        · have hlt2' : ¬ (k : Int) < (z1 : Int) := by omega
          go_wp2_with fail
          go_end0
          have hB : B = [] := by
            have h1 := HTI.out
            rw [HAB.out] at h1
            simp at h1
            exact List.eq_nil_of_length_eq_zero (by omega)
          subst hB
          have hA : A = Y.take i := by have := HAB.out; simpa using this.symm
          subst hA
          have hYs := HY.out
          rw [← List.take_append_drop i Y] at hYs
          refine ⟨rfl, Y.take i ++ x :: Y.drop i, ?_, ?_, HKq.out, by simpa using HRq.out⟩
          · refine List.perm_middle.trans ?_
            rw [List.take_append_drop]
            exact List.Perm.refl _
          · refine put_in hYs ?_ ?_
            · rcases HI.out with h1 | h1
              · left; rw [h1]; rfl
              · by_cases h0 : i = 0
                · left; rw [h0]; rfl
                · right
                  rw [HTI.out]
                  have : (Y.take i).getD (i - 1) 0 = Y.getD (i - 1) 0 := by simp [List.getD_eq_getElem?_getD, List.getElem?_take, show i - 1 < i by omega]
                  rw [this]; exact h1
            · rcases HJ.out with h1 | h1
              · left; rw [h1]; exact List.drop_eq_nil_of_le (by rw [HL.out.2]; exact Nat.le_refl _)
              · right
                have : (Y.drop i).getD 0 0 = Y.getD i 0 := by simp [List.getD_eq_getElem?_getD]
                rw [this]; exact h1
set_option maxHeartbeats 4000000 in
set_option maxRecDepth 100000 in
theorem merge2_c {key : Nat → Int} {enc : Nat → Int × Value} (henc : ∀ x, ∃ a n c, (enc x).2 = .slice a n c) {tail : List Value} {blk cap n g : Nat} {cb : Array Value} {w0 : World} (eg : A.Enters g) (hC : CmpS key enc n blk g cb w0)
    (P X : List Nat) (y : Nat) (S : List Nat) (N : Nat) (w : World) (hK0 : R.Keeps [blk] w0 w) (h : RowS enc tail blk (P ++ (X ++ ([y] ++ S))) w) (hN : (P ++ (X ++ ([y] ++ S))).length = N) (hn : N < 1000000)
    (hX0 : 1 < X.length) (hX : Srt key X) (hxy : ∀ x, x ∈ X → x < y) (hx : ∀ x, x ∈ X → x < n) (hy : y < n) :
    Calls Try.prog 98 #[.slice (some ⟨blk, 0, none⟩) N cap, .int .i64 (P.length : Int), .int .i64 ((P.length + X.length : Nat) : Int), .int .i64 ((P.length + X.length + 1 : Nat) : Int), .func (.func g) #[] cb] w (Merged key enc tail blk P X [y] S w) := by
  unfold A.Enters at eg
  have mixed : Try.prog.follows Departure.mixedOrders = true := by kernel_rfl
  have hNs : P.length + X.length + 1 + S.length = N := by rw [← hN]; simp; omega
  have HR0 := Lib.hid h
  have HC := Lib.hid hC
  have HK0 := Lib.hid hK0
  have HXY := Lib.hid hxy
  have HX := Lib.hid hX
  have HXN := Lib.hid hx
  obtain ⟨a, ha⟩ : ∃ a, P.length = a := ⟨_, rfl⟩
  obtain ⟨l, hl⟩ : ∃ l, X.length = l := ⟨_, rfl⟩
  rw [ha, hl] at hNs
  rw [hl] at hX0
  rw [ha, hl]
  have HL := Lib.hid (And.intro ha hl)
  clear h hC hK0 hxy hX hx hN ha hl
  obtain ⟨m, hm⟩ : ∃ m, a + l = m := ⟨_, rfl⟩
  obtain ⟨b, hb⟩ : ∃ b, m + 1 = b := ⟨_, rfl⟩
  rw [hm, hb]
  have e0 : (m : Int) - (a : Int) = (l : Int) := by omega
  have e00 : ((l : Int) == 1) = false := by simp; omega
  have e01 : ¬ ((l : Int) = 1) := by omega
  have wl := wr_small (x := l) (by omega)
  have e1 : (b : Int) - (m : Int) = 1 := by omega
  have ham : a < 1000000 := by omega
  have hbm : b < 1000000 := by omega
  go_enter Try.func98, Try.ntmps98
  go_wp2_with fail
  go_loopw [14, 15] (fun v14 v15 wr => ∃ (i j : Nat), v14 = .int .i64 ((a + i : Nat) : Int) ∧ v15 = .int .i64 ((a + j : Nat) : Int) ∧ i ≤ j ∧ j ≤ l ∧ Hid (i = 0 ∨ lx key (X.getD (i - 1) 0) y) ∧ Hid (j = l ∨ lx key y (X.getD j 0)) ∧ Hid (R.Keeps [] w wr)) (fun v14 v15 _ => (intOf v15).toNat - (intOf v14).toNat)
  case atStart => exact ⟨0, l, rfl, by rw [hm], by omega, Nat.le_refl _, Lib.hid (.inl rfl), Lib.hid (.inl rfl), Lib.hid (R.Keeps.refl _ _)⟩
  case round =>
    rename World => wr
    obtain ⟨i, j, rfl, rfl, hij, hjl, HI, HJ, HK⟩ := hrel
    by_cases hlt : i < j
    · obtain ⟨q, hq⟩ : ∃ q, (i + j) / 2 = q := ⟨_, rfl⟩
      obtain ⟨c, hc⟩ : ∃ c, a + q = c := ⟨_, rfl⟩
      obtain ⟨i1, hi1⟩ : ∃ i1, a + i = i1 := ⟨_, rfl⟩
      obtain ⟨j1, hj1⟩ : ∃ j1, a + j = j1 := ⟨_, rfl⟩
      rw [hi1, hj1]
      have hlt' : (i1 : Int) < (j1 : Int) := by omega
      obtain ⟨t, ht⟩ : ∃ t, i1 + j1 = t := ⟨_, rfl⟩
      have hti : (i1 : Int) + (j1 : Int) = (t : Int) := by omega
      have htc : t / 2 = c := by omega
      have htc' : (t : Int) / 2 = (c : Int) := by omega
      have wt := wr_small (x := t) (by omega)
      have wc := wr_small (x := c) (by omega)
      have wc1 := wr_small (x := c + 1) (by omega)
      have hcN : (c : Int) < (N : Int) := by omega
      have haN : (m : Int) < (N : Int) := by omega
      obtain ⟨xq, hyq⟩ : ∃ xq, X.getD q 0 = xq := ⟨_, rfl⟩
      have hql : q < X.length := by rw [HL.out.2]; omega
      have hmem : xq ∈ X := by rw [← hyq, List.getD_eq_getElem?_getD, List.getElem?_eq_getElem hql]; exact List.getElem_mem hql
      have hxq := HXY.out xq hmem
      have hxn := HXN.out xq hmem
      have hsplit : X = X.take q ++ xq :: X.drop (q + 1) := by
        have : xq = X[q] := by rw [← hyq, List.getD_eq_getElem?_getD, List.getElem?_eq_getElem hql]; rfl
        rw [this, List.getElem_cons_drop, List.take_append_drop]
      have hRr := HR0.out.keep HK.out
      have c1 : wr.cell? ⟨blk, c * 2, none⟩ = some (.int .i64 (enc xq).1) := hRr.cell0 (A := P ++ X.take q) (x := xq) (B := X.drop (q + 1) ++ ([y] ++ S)) (by rw [List.append_assoc, ← List.cons_append, ← List.append_assoc (X.take q), ← hsplit]) (by simp [HL.out.1]; omega)
      have c1b : wr.cell? ⟨blk, c * 2 + 1, none⟩ = some (enc xq).2 := hRr.cell1 (A := P ++ X.take q) (x := xq) (B := X.drop (q + 1) ++ ([y] ++ S)) (by rw [List.append_assoc, ← List.cons_append, ← List.append_assoc (X.take q), ← hsplit]) (by simp [HL.out.1]; omega)
      have c2 : wr.cell? ⟨blk, m * 2, none⟩ = some (.int .i64 (enc y).1) := hRr.cell0 (A := P ++ X) (x := y) (B := S) (by simp) (by simp [HL.out.1, HL.out.2]; omega)
      have c2b : wr.cell? ⟨blk, m * 2 + 1, none⟩ = some (enc y).2 := hRr.cell1 (A := P ++ X) (x := y) (B := S) (by simp) (by simp [HL.out.1, HL.out.2]; omega)
      obtain ⟨eu, heu⟩ : ∃ x_, (enc y).1 = x_ := ⟨_, rfl⟩
      obtain ⟨au, nu, cu, hfu⟩ := henc y
      have hvu : Value.agg #[.int .i64 eu, .slice au nu cu] = valP enc y := by unfold valP; rw [heu, hfu]
      obtain ⟨ev, hev⟩ : ∃ x_, (enc xq).1 = x_ := ⟨_, rfl⟩
      obtain ⟨av, nv, cv, hfv⟩ := henc xq
      have hvv : Value.agg #[.int .i64 ev, .slice av nv cv] = valP enc xq := by unfold valP; rw [hev, hfv]
      rw [heu] at c2
      rw [hfu] at c2b
      rw [hev] at c1
      rw [hfv] at c1b
      have CE : Hid (∀ w', R.Keeps [] wr w' → w'.cell? ⟨blk, m * 2, none⟩ = some (.int .i64 eu) ∧ w'.cell? ⟨blk, m * 2 + 1, none⟩ = some (.slice au nu cu) ∧ w'.cell? ⟨blk, c * 2, none⟩ = some (.int .i64 ev) ∧ w'.cell? ⟨blk, c * 2 + 1, none⟩ = some (.slice av nv cv)) := Lib.hid (fun w' hw => ⟨hw.cell c2 (by simp), hw.cell c2b (by simp), hw.cell c1 (by simp), hw.cell c1b (by simp)⟩)
      have HKW := Lib.hid (HK0.out.trans HK.out (fun k hk => by simp at hk))
      have HQ := Lib.hid hyq
      have HEN := Lib.hid (And.intro (And.intro heu hfu) (And.intro (And.intro hev hfv) (And.intro hvu hvv)))
      clear hvu hvv
      clear hsplit hmem hyq c1 c1b c2 c2b hRr hql
      go_wp2_with fail
      apply R.wp_region_text [0, 1, 2, 3, 4, 5, 6, 7, 8] [9, 10, 11] 12 (R.Keeps [] wr)
      case hm => kernel_rfl
      case hB => kernel_rfl
      case hd => rfl
      case hQ => exact fun _ _ _ _ _ h => h
      case hS => exact (R.Keeps.refl _ _).drew
      case hF =>
        intro w' hS
        obtain ⟨y0, y0b, y1, y1b⟩ := CE.out w' hS
        clear hS
        simp only [R.pickC, List.filterMap_cons, List.getElem?_toArray, List.getElem?_cons_zero, List.getElem?_cons_succ, List.filterMap_nil]
        (with_reducible refine R.wpStill_plain rfl (fun K hK => ?_)); go_simp; with_reducible refine hK _ ?_; clear hK K
        (with_reducible refine R.wpStill_plain rfl (fun K hK => ?_)); go_simp; with_reducible refine hK _ ?_; clear hK K
        (with_reducible refine R.wpStill_plain rfl (fun K hK => ?_)); go_simp; with_reducible refine hK _ ?_; clear hK K
        (with_reducible refine R.wpStill_plain rfl (fun K hK => ?_)); go_simp; with_reducible refine hK _ ?_; clear hK K
        (with_reducible refine R.wpStill_plain rfl (fun K hK => ?_)); go_simp; with_reducible refine hK _ ?_; clear hK K
        (with_reducible refine R.wpStill_plain rfl (fun K hK => ?_)); go_simp; with_reducible refine hK _ ?_; clear hK K
        (with_reducible refine R.wpStill_plain rfl (fun K hK => ?_)); go_simp; with_reducible refine hK _ ?_; clear hK K
        (with_reducible refine R.wpStill_plain rfl (fun K hK => ?_)); go_simp; with_reducible refine hK _ ?_; clear hK K
        (with_reducible refine R.wpStill_plain rfl (fun K hK => ?_)); go_simp; with_reducible refine hK _ ?_; clear hK K
        exact wpStill_nil rfl
      case hC =>
        simp only [R.chainOf, List.getElem?_toArray, List.getElem?_cons_zero, List.getElem?_cons_succ, Nat.reduceBNe, Bool.and_true, Bool.and_false, Bool.false_and]
        refine R.wpSeq_same (fun K hK => ?_)
        go_simp
        rw [HEN.out.2.2.1, HEN.out.2.2.2]
        refine (HC.out _ HKW.out.drew y xq hy hxn).mono ?_
        rintro e w2 ⟨cr, rfl, hcr, hB2⟩
        have hK2 : R.Keeps [] wr w2 := ((R.Keeps.refl [] _).drew).trans (R.Keeps.of_below [] hB2) (fun k hk => by simp at hk)
        refine hK _ _ hK2 ?_
        clear hK K
        have HK2 := Lib.hid hK2
        clear hB2 hK2
        by_cases hneg : cr < 0
        · have HNEG : Hid (lx key y xq) := Lib.hid (.inl (hcr.1 hneg))
          clear hcr
          refine R.wpSeq_same (fun K hK => ?_)
          go_simp
          with_reducible refine hK _ _ HK2.out ?_
          clear hK K
          refine R.wpSeq_same (fun K hK => ?_)
          go_simp
          with_reducible refine hK _ _ HK2.out ?_
          clear hK K
          refine R.wpSeq_nil ?_
          go_wp2_with fail
          refine ⟨⟨i, q, by go_num, by go_num, by omega, by omega, HI, Lib.hid (.inr (by rw [HQ.out]; exact HNEG.out)), Lib.hid (HK.out.trans HK2.out (fun k hk _ => hk))⟩, by simp [intOf]; omega⟩
        · have HNEG : Hid (lx key xq y) := Lib.hid (lx.not (fun hh => hneg (hcr.2 ((lx_right hxq).1 hh))) (by omega))
          have hnn : decide (cr < 0) = false := decide_eq_false hneg
          clear hcr
          refine R.wpSeq_same (fun K hK => ?_)
          go_simp
          with_reducible refine hK _ _ HK2.out ?_
          clear hK K
          refine R.wpSeq_same (fun K hK => ?_)
          go_simp
          with_reducible refine hK _ _ HK2.out ?_
          clear hK K
          refine R.wpSeq_nil ?_
          go_wp2_with fail
          refine ⟨⟨q + 1, j, by go_num, by go_num, by omega, hjl, Lib.hid (.inr (by rw [Nat.add_sub_cancel, HQ.out]; exact HNEG.out)), HJ, Lib.hid (HK.out.trans HK2.out (fun k hk _ => hk))⟩, by simp [intOf]; omega⟩
    · obtain rfl : i = j := by omega
      obtain ⟨i1, hi1⟩ : ∃ i1, a + i = i1 := ⟨_, rfl⟩
      rw [hi1]
      have hil : i ≤ X.length := by rw [HL.out.2]; omega
      have hti : (X.drop i).length = l - i := by simp [HL.out.2]
      have HTI := Lib.hid hti
      have HR1 : Hid (RowS enc tail blk (P ++ (X.take i ++ (X.drop i ++ (y :: ([] ++ S))))) wr) := Lib.hid (by have := HR0.out.keep HK.out; rw [← List.append_assoc (X.take i), List.take_append_drop]; exact this)
      clear hti
      go_wp2_with fail
      go_loopw [17] (fun v17 wq => ∃ (A B : List Nat), v17 = .int .i64 ((i1 + A.length : Nat) : Int) ∧ A.length ≤ l - i ∧ Hid (X.drop i = A ++ B) ∧ Hid (RowS enc tail blk (P ++ (X.take i ++ (A ++ (y :: (B ++ S))))) wq) ∧ Hid (R.Keeps [blk] w wq)) (fun v17 _ => (intOf v17).toNat)
      case atStart => exact ⟨X.drop i, [], by rw [HTI.out]; congr 1; omega, by rw [HTI.out]; exact Nat.le_refl _, Lib.hid (by simp), HR1, Lib.hid (HK.out.mono (fun k hk => by simp at hk))⟩
      case round =>
        rename World => wq
        obtain ⟨A, B, rfl, hAi, HAB, HRq, HKq⟩ := hrel
        obtain ⟨k, hk⟩ : ∃ k, i1 + A.length = k := ⟨_, rfl⟩
        rw [hk]
        by_cases hlt2 : i1 < k
        · obtain ⟨A', z, rfl⟩ : ∃ A' z, A = A' ++ [z] := by
            have hne : A ≠ [] := by intro e; rw [e] at hk; simp at hk; omega
            exact ⟨A.dropLast, A.getLast hne, (List.dropLast_concat_getLast hne).symm⟩
          have hlt2' : (i1 : Int) < (k : Int) := by omega
          obtain ⟨k1, hk1⟩ : ∃ k1, k1 + 1 = k := ⟨k - 1, by omega⟩
          have hkk : (k : Int) - 1 = (k1 : Int) := by omega
          have wk := wr_small (x := k1) (by omega)
          have b1 : (k : Int) < (N : Int) := by omega
          have b2 : (k1 : Int) < (N : Int) := by omega
          have hAl : A'.length + 1 = k - i1 := by simp at hk; omega
          have hsp : P ++ (X.take i ++ ((A' ++ [z]) ++ (y :: (B ++ S)))) = (P ++ (X.take i ++ A')) ++ z :: ([] ++ y :: (B ++ S)) := by simp
          have ha : k1 = (P ++ (X.take i ++ A')).length := by simp [HL.out.1]; omega
          have hb : k = (P ++ (X.take i ++ A')).length + 1 + ([] : List Nat).length := by rw [← ha]; simp; omega
          have c1 : wq.cell? ⟨blk, k1 * 2, none⟩ = some (.int .i64 (enc z).1) := HRq.out.cell0 hsp ha
          have c1b : wq.cell? ⟨blk, k1 * 2 + 1, none⟩ = some (enc z).2 := HRq.out.cell1 hsp ha
          have c2 : wq.cell? ⟨blk, k * 2, none⟩ = some (.int .i64 (enc y).1) := HRq.out.cell0 (A := (P ++ (X.take i ++ A')) ++ [z]) (x := y) (B := B ++ S) (by simp) (by rw [hb]; simp; omega)
          have c2b : wq.cell? ⟨blk, k * 2 + 1, none⟩ = some (enc y).2 := HRq.out.cell1 (A := (P ++ (X.take i ++ A')) ++ [z]) (x := y) (B := B ++ S) (by simp) (by rw [hb]; simp; omega)
          have f1 := HRq.out.frozen (k * 2)
          have f1b := HRq.out.frozen (k * 2 + 1)
          have f2 := HRq.out.frozen (k1 * 2)
          have f2b := HRq.out.frozen (k1 * 2 + 1)
          obtain ⟨eu, heu⟩ : ∃ x_, (enc z).1 = x_ := ⟨_, rfl⟩
          obtain ⟨au, nu, cu, hfu⟩ := henc z
          have hvu : Value.agg #[.int .i64 eu, .slice au nu cu] = valP enc z := by unfold valP; rw [heu, hfu]
          obtain ⟨ev, hev⟩ : ∃ x_, (enc y).1 = x_ := ⟨_, rfl⟩
          obtain ⟨av, nv, cv, hfv⟩ := henc y
          have hvv : Value.agg #[.int .i64 ev, .slice av nv cv] = valP enc y := by unfold valP; rw [hev, hfv]
          rw [heu] at c1
          rw [hfu] at c1b
          rw [hev] at c2
          rw [hfv] at c2b
          have HEN := Lib.hid (And.intro (And.intro heu hfu) (And.intro (And.intro hev hfv) (And.intro hvu hvv)))
          clear hvu hvv
          have HSP := Lib.hid (And.intro hsp (And.intro ha hb))
          have HKA := Lib.hid hk
          have hcomm : ∀ (w : World), (((w.setCell ⟨blk, k * 2, none⟩ (.int .i64 eu)).setCell ⟨blk, k * 2 + 1, none⟩ (.slice au nu cu)).setCell ⟨blk, k1 * 2, none⟩ (.int .i64 ev)).setCell ⟨blk, k1 * 2 + 1, none⟩ (.slice av nv cv) = (((w.setCell ⟨blk, k1 * 2, none⟩ (.int .i64 ev)).setCell ⟨blk, k1 * 2 + 1, none⟩ (.slice av nv cv)).setCell ⟨blk, k * 2, none⟩ (.int .i64 eu)).setCell ⟨blk, k * 2 + 1, none⟩ (.slice au nu cu) := fun w => set4_comm w (by omega)
          have HCM := Lib.hid hcomm
          clear heu hfu hev hfv ha hb hsp hk hcomm
          go_wp2_with fail
          go_big_region_o
          all_goals go_wp2_with fail
          all_goals
            refine ⟨⟨A', z :: B, by have := HKA.out; simp only [List.length_append, List.length_cons, List.length_nil] at this; rw [show k1 = i1 + A'.length by omega], by simp only [List.length_append, List.length_cons, List.length_nil] at hAi; omega, Lib.hid (by rw [HAB.out]; simp), ?_, Lib.hid ((((((HKq.out).setCell (by simp) _).setCell (by simp) _).setCell (by simp) _).setCell (by simp) _).drew)⟩, by simp [intOf]; omega⟩
            have h5 := HRq.out.swap HSP.out.1 HSP.out.2.1 HSP.out.2.2
            rw [HEN.out.1.1, HEN.out.1.2, HEN.out.2.1.1, HEN.out.2.1.2, ← HCM.out] at h5
            exact Lib.hid (by simpa using h5.keep ((R.Keeps.refl [] _).drew))
        · have hlt2' : ¬ (i1 : Int) < (k : Int) := by omega
          go_wp2_with fail
          go_end0
          have hA : A = [] := List.eq_nil_of_length_eq_zero (by omega)
          subst hA
          have hB : B = X.drop i := by have := HAB.out; simpa using this.symm
          subst hB
          have hXs := HX.out
          rw [← List.take_append_drop i X] at hXs
          refine ⟨rfl, X.take i ++ y :: X.drop i, ?_, ?_, HKq.out, by simpa using HRq.out⟩
          · refine List.perm_middle.trans ?_
            rw [List.take_append_drop]
            exact (List.perm_append_comm (l₁ := [y]) (l₂ := X))
          · refine put_in hXs ?_ ?_
            · rcases HI.out with h1 | h1
              · left; rw [h1]; rfl
              · by_cases h0 : i = 0
                · left; rw [h0]; rfl
                · right
                  have hl : (X.take i).length = i := by simp; omega
                  rw [hl]
                  have : (X.take i).getD (i - 1) 0 = X.getD (i - 1) 0 := by simp [List.getD_eq_getElem?_getD, List.getElem?_take, show i - 1 < i by omega]
                  rw [this]; exact h1
            · rcases HJ.out with h1 | h1
              · left; rw [h1]; exact List.drop_eq_nil_of_le (by rw [HL.out.2]; exact Nat.le_refl _)
              · right
                have : (X.drop i).getD 0 0 = X.getD i 0 := by simp [List.getD_eq_getElem?_getD]
                rw [this]; exact h1
end Go.Proofs.Ytcpojohpmcnnhaa.AP
