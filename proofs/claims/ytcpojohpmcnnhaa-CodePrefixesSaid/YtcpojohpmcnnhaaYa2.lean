/- What the statements of this seat lean on: the functions that they reach, walked. -/
import Derived.Test.YtcpojohpmcnnhaaYa1
set_option linter.unusedSimpArgs false
set_option linter.unusedVariables false

set_option linter.unusedVariables false
set_option linter.unusedSimpArgs false
namespace Go.Proofs.Ytcpojohpmcnnhaa.A
open Go.RowKit Go.Proofs.YtcpojohpmcnnhaaW.PrintWords Go.Proofs.YtcpojohpmcnnhaaW.PrintLast Go.Proofs.YtcpojohpmcnnhaaW.PrintMore
open Go.Proofs.Ytcpojohpmcnnhaa.PA
def MergeAt (key : Nat → Int) (enc : Nat → Value) (tail : List Value) (blk cap n g : Nat) (cb : Array Value) (w0 : World) (N K : Nat) : Prop :=
  ∀ (P X Y S L : List Nat) (a m b : Int) (w : World), L = P ++ (X ++ (Y ++ S)) → X.length + Y.length ≤ K → R.Keeps [blk] w0 w → RowS enc 3 tail blk L w → L.length = N →
    a = (P.length : Int) → m = ((P.length + X.length : Nat) : Int) → b = ((P.length + X.length + Y.length : Nat) : Int) → 0 < X.length → 0 < Y.length → Srt key X → Srt key Y → (∀ x, x ∈ X → ∀ y, y ∈ Y → x < y) → (∀ x, x ∈ X → x < n) → (∀ y, y ∈ Y → y < n) →
    Calls Try.prog 100 #[.slice (some ⟨blk, 0, none⟩) N cap, .int .i64 a, .int .i64 m, .int .i64 b, .func (.func g) #[] cb] w (Merged key enc tail blk P X Y S w)
theorem split_at (l : List Nat) (s : Nat) (h : s < l.length) : l = l.take s ++ l.getD s 0 :: l.drop (s + 1) := by
  have : l.getD s 0 = l[s] := by rw [List.getD_eq_getElem?_getD, List.getElem?_eq_getElem h]; rfl
  rw [this, List.getElem_cons_drop, List.take_append_drop]
theorem getD_mem {l : List Nat} {s : Nat} (h : s < l.length) : l.getD s 0 ∈ l := by rw [List.getD_eq_getElem?_getD, List.getElem?_eq_getElem h]; exact List.getElem_mem h
theorem take_last (l : List Nat) {s : Nat} (h : s ≤ l.length) : (l.take s).getD ((l.take s).length - 1) 0 = l.getD (s - 1) 0 ∨ s = 0 := by
  by_cases h0 : s = 0
  · exact .inr h0
  · left
    rw [List.length_take, Nat.min_eq_left h]
    simp [List.getD_eq_getElem?_getD, List.getElem?_take, show s - 1 < s by omega]
theorem drop_first (l : List Nat) (s : Nat) : (l.drop s).getD 0 0 = l.getD s 0 := by simp [List.getD_eq_getElem?_getD]
theorem sides {key : Nat → Int} {X Y : List Nat} {s t s0 r0 h : Nat} (hs : s ≤ X.length) (ht : t ≤ Y.length) (hth : t = h - s) (hsh : s ≤ h) (hI : s = s0 ∨ lx key (X.getD (s - 1) 0) (Y.getD (h - s) 0)) (hJ : s = r0 ∨ lx key (Y.getD (h - 1 - s) 0) (X.getD s 0))
    (h0 : s0 = 0 ∨ s0 + Y.length = h) (h1 : r0 = X.length ∨ r0 = h) :
    (X.take s = [] ∨ Y.drop t = [] ∨ lx key ((X.take s).getD ((X.take s).length - 1) 0) ((Y.drop t).getD 0 0)) ∧ (Y.take t = [] ∨ X.drop s = [] ∨ lx key ((Y.take t).getD ((Y.take t).length - 1) 0) ((X.drop s).getD 0 0)) := by
  subst hth
  constructor
  · by_cases hz : s = 0
    · left; rw [hz]; rfl
    · rcases hI with hI | hI
      · rcases h0 with h0 | h0
        · left; rw [hI, h0]; rfl
        · right; left; exact List.drop_eq_nil_of_le (by omega)
      · right; right
        rw [(take_last X hs).resolve_right hz, drop_first]
        exact hI
  · by_cases hz : h - s = 0
    · left; rw [hz]; rfl
    · rcases hJ with hJ | hJ
      · rcases h1 with h1 | h1
        · right; left; exact List.drop_eq_nil_of_le (by omega)
        · omega
      · right; right
        rw [(take_last Y ht).resolve_right hz, drop_first, show h - s - 1 = h - 1 - s by omega]
        exact hJ
set_option maxHeartbeats 16000000 in
set_option maxRecDepth 100000 in
theorem symMerge_gt {key : Nat → Int} {enc : Nat → Value} (henc : ∀ x, ∃ v, enc x = .int .i64 v) {tail : List Value} {blk cap n g : Nat} {cb : Array Value} {w0 : World} (eg : Enters g) (hC : CmpS key enc n blk g cb w0) (N : Nat) (hn : N < 1000000) (K : Nat) (ih : MergeAt key enc tail blk cap n g cb w0 N K)
    (P X Y S : List Nat) (a m b : Int) (w : World) (hK : X.length + Y.length ≤ K + 1) (hK0 : R.Keeps [blk] w0 w) (h : RowS enc 3 tail blk (P ++ (X ++ (Y ++ S))) w) (hN : (P ++ (X ++ (Y ++ S))).length = N)
    (ha : a = (P.length : Int)) (hm : m = ((P.length + X.length : Nat) : Int)) (hb : b = ((P.length + X.length + Y.length : Nat) : Int)) (hX0 : 0 < X.length) (hY0 : 0 < Y.length) (hX : Srt key X) (hY : Srt key Y) (hxy : ∀ x, x ∈ X → ∀ y, y ∈ Y → x < y) (hxn : ∀ x, x ∈ X → x < n) (hyn : ∀ y, y ∈ Y → y < n)
    (hx1 : ¬ X.length = 1) (hy1 : ¬ Y.length = 1) (hside : (P.length + (P.length + X.length + Y.length)) / 2 < P.length + X.length) :
    Calls Try.prog 100 #[.slice (some ⟨blk, 0, none⟩) N cap, .int .i64 a, .int .i64 m, .int .i64 b, .func (.func g) #[] cb] w (Merged key enc tail blk P X Y S w) := by
  unfold Enters at eg
  have eg100 : ∀ args w, (callFunc 100 args).run Try.prog w = .ok (.enter 100 args) w := enters_mk Try.func100 (by kernel_rfl) rfl
  have hNs : P.length + X.length + Y.length + S.length = N := by rw [← hN]; simp; omega
  have HR0 := Lib.hid h
  have HC := Lib.hid hC
  have HK0 := Lib.hid hK0
  have HXY := Lib.hid hxy
  have HX := Lib.hid hX
  have HY := Lib.hid hY
  have HXN := Lib.hid hxn
  have HYN := Lib.hid hyn
  have IH := Lib.hid ih
  have HNN := Lib.hid hN
  obtain ⟨p, hp⟩ : ∃ p, P.length = p := ⟨_, rfl⟩
  obtain ⟨l, hl⟩ : ∃ l, X.length = l := ⟨_, rfl⟩
  obtain ⟨r, hr⟩ : ∃ r, Y.length = r := ⟨_, rfl⟩
  rw [hp, hl, hr] at hNs hside
  rw [hl] at hX0 hK hx1
  rw [hr] at hY0 hK hy1
  rw [hp] at ha
  rw [hp, hl] at hm
  rw [hp, hl, hr] at hb
  have HL := Lib.hid (And.intro hp (And.intro hl hr))
  clear h hC hK0 hxy hX hY hxn hyn hN ih hp hl hr
  obtain ⟨mm, hmm⟩ : ∃ mm : Nat, p + l = mm := ⟨_, rfl⟩
  obtain ⟨bb, hbb⟩ : ∃ bb : Nat, mm + r = bb := ⟨_, rfl⟩
  rw [hmm] at hm
  rw [hmm, hbb] at hb
  subst ha hm hb
  obtain ⟨t0, ht0⟩ : ∃ t0 : Nat, p + bb = t0 := ⟨_, rfl⟩
  obtain ⟨md, hmd⟩ : ∃ md : Nat, t0 / 2 = md := ⟨_, rfl⟩
  obtain ⟨nn, hnn⟩ : ∃ nn : Nat, md + mm = nn := ⟨_, rfl⟩
  obtain ⟨pp, hpp⟩ : ∃ pp : Nat, pp + 1 = nn := ⟨nn - 1, by omega⟩
  obtain ⟨h, hh⟩ : ∃ h : Nat, p + h = md := ⟨md - p, by omega⟩
  have e1 : (mm : Int) - (p : Int) = (l : Int) := by omega
  have e1b : ((l : Int) == 1) = false := by simp; omega
  have e2 : (bb : Int) - (mm : Int) = (r : Int) := by omega
  have e2b : ((r : Int) == 1) = false := by simp; omega
  have e3 : (p : Int) + (bb : Int) = (t0 : Int) := by omega
  have e4 : (t0 : Int) / 2 = (md : Int) := by omega
  have e5 : (md : Int) + (mm : Int) = (nn : Int) := by omega
  have e6 : (nn : Int) - 1 = (pp : Int) := by omega
  have wl := wr_small (x := l) (by omega)
  have wrr := wr_small (x := r) (by omega)
  have wt := wr_small (x := t0) (by omega)
  have wm := wr_small (x := md) (by omega)
  have wn := wr_small (x := nn) (by omega)
  have wp := wr_small (x := pp) (by omega)
  have htu : IntKind.u64.wrap (t0 : Int) = (t0 : Int) := IntWalk.u64_in _ (by omega)
  obtain ⟨s0, r0, hs0, hr0, hsr, hhs, hrl, hrh, hcase⟩ : ∃ s0 r0 : Nat, (s0 = 0 ∨ s0 + r = h) ∧ (r0 = l ∨ r0 = h) ∧ s0 ≤ r0 ∧ h ≤ s0 + r ∧ r0 ≤ l ∧ r0 ≤ h ∧ ((md < mm ∧ nn = bb + p + s0 ∧ md = p + r0) ∨ (mm ≤ md ∧ s0 = 0 ∧ r0 = l)) := by
    by_cases hc : md < mm
    · exact ⟨h - r, h, by omega, by omega, by omega, by omega, by omega, by omega, by omega⟩
    · exact ⟨0, l, by omega, by omega, by omega, by omega, by omega, by omega, by omega⟩
  obtain ⟨a0, ha0⟩ : ∃ a0 : Nat, p + s0 = a0 := ⟨_, rfl⟩
  obtain ⟨b0, hb0⟩ : ∃ b0 : Nat, p + r0 = b0 := ⟨_, rfl⟩
  have wa0 := wr_small (x := a0) (by omega)
  have HS0 := Lib.hid (And.intro hs0 hr0)
  have HA0 := Lib.hid (And.intro ha0 hb0)
  clear hs0 hr0
  go_enter Try.func100, Try.ntmps100
  rcases hcase with ⟨hgt, hn1, hm1⟩ | ⟨hle, hz0, hz1⟩
  · have f1 : (md : Int) < (mm : Int) := by omega
    have f2 : (nn : Int) - (bb : Int) = (a0 : Int) := by omega
    have HM1 := Lib.hid (And.intro hn1 hm1)
    clear hn1 hm1
    go_wp2_with fail
    clear e3 e4 htu wt e5 e6 wn
    go_loopw [20, 21] (fun v20 v21 wr => ∃ (s e : Nat), v20 = .int .i64 ((p + s : Nat) : Int) ∧ v21 = .int .i64 ((p + e : Nat) : Int) ∧ s0 ≤ s ∧ s ≤ e ∧ e ≤ r0 ∧ Hid (s = s0 ∨ lx key (X.getD (s - 1) 0) (Y.getD (h - s) 0)) ∧ Hid (e = r0 ∨ lx key (Y.getD (h - 1 - e) 0) (X.getD e 0)) ∧ Hid (R.Keeps [] w wr)) (fun v20 v21 _ => (intOf v21).toNat - (intOf v20).toNat)
    case atStart => exact ⟨s0, r0, by rw [HA0.out.1], by rw [← HM1.out.2], Nat.le_refl _, hsr, Nat.le_refl _, Lib.hid (.inl rfl), Lib.hid (.inl rfl), Lib.hid (R.Keeps.refl _ _)⟩
    case round =>
      rename World => wr
      obtain ⟨s, e, rfl, rfl, hss, hse, her, HI, HJ, HK⟩ := hrel
      by_cases hlt : s < e
      · obtain ⟨q, hq⟩ : ∃ q, (s + e) / 2 = q := ⟨_, rfl⟩
        obtain ⟨c, hc⟩ : ∃ c, p + q = c := ⟨_, rfl⟩
        obtain ⟨i1, hi1⟩ : ∃ i1, p + s = i1 := ⟨_, rfl⟩
        obtain ⟨j1, hj1⟩ : ∃ j1, p + e = j1 := ⟨_, rfl⟩
        rw [hi1, hj1]
        have hlt' : (i1 : Int) < (j1 : Int) := by omega
        obtain ⟨t, ht⟩ : ∃ t, i1 + j1 = t := ⟨_, rfl⟩
        obtain ⟨d, hd⟩ : ∃ d, mm + (h - 1 - q) = d := ⟨_, rfl⟩
        have hti : (i1 : Int) + (j1 : Int) = (t : Int) := by omega
        have htc' : (t : Int) / 2 = (c : Int) := by omega
        have hdd : (pp : Int) - (c : Int) = (d : Int) := by omega
        have wt := wr_small (x := t) (by omega)
        have wc := wr_small (x := c) (by omega)
        have wd := wr_small (x := d) (by omega)
        have wc1 := wr_small (x := c + 1) (by omega)
        have hcN : (c : Int) < (N : Int) := by omega
        have hdN : (d : Int) < (N : Int) := by omega
        have hql : q < X.length := by rw [HL.out.2.1]; omega
        have hqr : h - 1 - q < Y.length := by rw [HL.out.2.2]; omega
        have hsx := split_at X q hql
        have hsy := split_at Y (h - 1 - q) hqr
        have hmx := getD_mem hql
        have hmy := getD_mem hqr
        obtain ⟨xq, hxq⟩ : ∃ xq, X.getD q 0 = xq := ⟨_, rfl⟩
        obtain ⟨yq, hyq⟩ : ∃ yq, Y.getD (h - 1 - q) 0 = yq := ⟨_, rfl⟩
        rw [hxq] at hsx hmx
        rw [hyq] at hsy hmy
        have hxy := HXY.out xq hmx yq hmy
        have hxn := HXN.out xq hmx
        have hyn := HYN.out yq hmy
        have hRr := HR0.out.keep HK.out
        have c1 : wr.cell? ⟨blk, c, none⟩ = some (enc xq) := hRr.cell (A := P ++ X.take q) (x := xq) (B := X.drop (q + 1) ++ (Y ++ S)) (by rw [List.append_assoc, ← List.cons_append, ← List.append_assoc (X.take q), ← hsx]) (by simp [HL.out.1]; omega)
        have c2 : wr.cell? ⟨blk, d, none⟩ = some (enc yq) := hRr.cell (A := P ++ (X ++ Y.take (h - 1 - q))) (x := yq) (B := Y.drop (h - 1 - q + 1) ++ S) (by rw [List.append_assoc, List.append_assoc, ← List.cons_append, ← List.append_assoc (Y.take _), ← hsy]) (by simp [HL.out.1, HL.out.2.1]; omega)
        obtain ⟨eu, heu⟩ := henc yq
        obtain ⟨ev, hev⟩ := henc xq
        rw [heu] at c2
        rw [hev] at c1
        have CE : Hid (∀ w', R.Keeps [] wr w' → w'.cell? ⟨blk, d, none⟩ = some (.int .i64 eu) ∧ w'.cell? ⟨blk, c, none⟩ = some (.int .i64 ev)) := Lib.hid (fun w' hw => ⟨hw.cell c2 (by simp), hw.cell c1 (by simp)⟩)
        have HKW := Lib.hid (HK0.out.trans HK.out (fun k hk => by simp at hk))
        have HQ := Lib.hid (And.intro hxq hyq)
        have HEN := Lib.hid (And.intro heu hev)
        have HSE := Lib.hid (show h - (q + 1) = h - 1 - q by omega)
        clear hsx hsy hmx hmy hxq hyq c1 c2 hRr hql hqr
        go_wp2_with fail
        apply R.wp_region_text [0, 1, 2, 3, 4, 5, 6, 7, 8, 9, 10] [11, 12, 13] 14 (R.Keeps [] wr)
        case hm => kernel_rfl
        case hB => kernel_rfl
        case hd => rfl
        case hQ => exact fun _ _ _ _ _ h => h
        case hS => exact (R.Keeps.refl _ _).drew
        case hF =>
          intro w' hS
          obtain ⟨y0, y1⟩ := CE.out w' hS
          clear hS
          simp only [R.pickC, List.filterMap_cons, List.getElem?_toArray, List.getElem?_cons_zero, List.getElem?_cons_succ, List.filterMap_nil]
          (with_reducible refine R.wpStill_plain rfl (fun K hK => ?_)); go_simp; with_reducible refine hK _ ?_; clear hK K
          (with_reducible refine R.wpStill_plain rfl (fun K hK => ?_)); go_simp; with_reducible refine hK _ ?_; clear hK K
          (with_reducible refine R.wpStill_plain rfl (fun K hK => ?_)); go_simp; with_reducible refine hK _ ?_; clear hK K
          (with_reducible refine R.wpStill_plain rfl (fun K hK => ?_)); go_simp; with_reducible refine hK _ ?_; clear hK K
          (with_reducible refine R.wpStill_plain rfl (fun K hK => ?_)); go_simp; with_reducible refine hK _ ?_; clear hK K
          (with_reducible refine R.wpStill_plain rfl (fun K hK => ?_)); go_simp; with_reducible refine hK _ ?_; clear hK K
          (with_reducible refine R.wpStill_plain rfl (fun K hK => ?_)); go_simp; with_reducible refine hK _ ?_; clear hK K
          (with_reducible refine R.wpStill_plain rfl (fun K hK => ?_)); go_simp; with_reducible refine hK _ ?_; clear hK K
          (with_reducible refine R.wpStill_plain rfl (fun K hK => ?_)); go_simp; with_reducible refine hK _ ?_; clear hK K
          (with_reducible refine R.wpStill_plain rfl (fun K hK => ?_)); go_simp; with_reducible refine hK _ ?_; clear hK K
          (with_reducible refine R.wpStill_plain rfl (fun K hK => ?_)); go_simp; with_reducible refine hK _ ?_; clear hK K
          exact wpStill_nil rfl
        case hC =>
          simp only [R.chainOf, List.getElem?_toArray, List.getElem?_cons_zero, List.getElem?_cons_succ, Nat.reduceBNe, Bool.and_true, Bool.and_false, Bool.false_and]
          refine R.wpSeq_same (fun K hK => ?_)
          go_simp
          rw [← HEN.out.1, ← HEN.out.2]
          refine (HC.out _ HKW.out.drew yq xq hyn hxn).mono ?_
          rintro e w2 ⟨cr, rfl, hcr, hB2⟩
          have hK2 : R.Keeps [] wr w2 := ((R.Keeps.refl [] _).drew).trans (R.Keeps.of_below [] hB2) (fun k hk => by simp at hk)
          refine hK _ _ hK2 ?_
          clear hK K
          have HK2 := Lib.hid hK2
          clear hB2 hK2
          by_cases hneg : cr < 0
          · have HNEG : Hid (lx key yq xq) := Lib.hid (.inl (hcr.1 hneg))
            clear hcr
            refine R.wpSeq_same (fun K hK => ?_)
            go_simp
            with_reducible refine hK _ _ HK2.out ?_
            clear hK K
            refine R.wpSeq_same (fun K hK => ?_)
            go_simp
            with_reducible refine hK _ _ HK2.out ?_
            clear hK K
            refine R.wpSeq_nil ?_
            go_wp2_with fail
            refine ⟨⟨s, q, by go_num, by go_num, hss, by omega, by omega, HI, Lib.hid (.inr (by rw [HQ.out.1, HQ.out.2]; exact HNEG.out)), Lib.hid (HK.out.trans HK2.out (fun k hk _ => hk))⟩, by simp [intOf]; omega⟩
          · have HNEG : Hid (lx key xq yq) := Lib.hid (lx.not (fun hh => hneg (hcr.2 ((lx_right hxy).1 hh))) (by omega))
            have hnn' : decide (cr < 0) = false := decide_eq_false hneg
            clear hcr
            refine R.wpSeq_same (fun K hK => ?_)
            go_simp
            with_reducible refine hK _ _ HK2.out ?_
            clear hK K
            refine R.wpSeq_same (fun K hK => ?_)
            go_simp
            with_reducible refine hK _ _ HK2.out ?_
            clear hK K
            refine R.wpSeq_nil ?_
            go_wp2_with fail
            refine ⟨⟨q + 1, e, by go_num, by go_num, by omega, by omega, her, Lib.hid (.inr (by rw [Nat.add_sub_cancel, HSE.out, HQ.out.1, HQ.out.2]; exact HNEG.out)), HJ, Lib.hid (HK.out.trans HK2.out (fun k hk _ => hk))⟩, by simp [intOf]; omega⟩
      · obtain rfl : s = e := by omega
        clear hse hlt
        obtain ⟨st, hst⟩ : ∃ st, p + s = st := ⟨_, rfl⟩
        obtain ⟨t, ht⟩ : ∃ t, h - s = t := ⟨_, rfl⟩
        obtain ⟨en, hen⟩ : ∃ en, mm + t = en := ⟨_, rfl⟩
        rw [hst]
        have hee : (nn : Int) - (st : Int) = (en : Int) := by omega
        have we := wr_small (x := en) (by omega)
        have hsl : s ≤ X.length := by rw [HL.out.2.1]; omega
        have htr : t ≤ Y.length := by rw [HL.out.2.2]; omega
        have hsd := sides (key := key) hsl htr ht.symm (by omega) HI.out HJ.out (by rw [HL.out.2.2]; exact HS0.out.1) (by rw [HL.out.2.1]; exact HS0.out.2)
        obtain ⟨X1, hX1⟩ : ∃ X1, X.take s = X1 := ⟨_, rfl⟩
        obtain ⟨X2, hX2⟩ : ∃ X2, X.drop s = X2 := ⟨_, rfl⟩
        obtain ⟨Y1, hY1⟩ : ∃ Y1, Y.take t = Y1 := ⟨_, rfl⟩
        obtain ⟨Y2, hY2⟩ : ∃ Y2, Y.drop t = Y2 := ⟨_, rfl⟩
        have lX1 : X1.length = s := by rw [← hX1]; simp; omega
        have lX2 : X2.length = l - s := by rw [← hX2]; simp [HL.out.2.1]
        have lY1 : Y1.length = t := by rw [← hY1]; simp; omega
        have lY2 : Y2.length = r - t := by rw [← hY2]; simp [HL.out.2.2]
        have eX : X = X1 ++ X2 := by rw [← hX1, ← hX2, List.take_append_drop]
        have eY : Y = Y1 ++ Y2 := by rw [← hY1, ← hY2, List.take_append_drop]
        rw [hX1, hX2, hY1, hY2] at hsd
        have HSD := Lib.hid hsd
        have HLX := Lib.hid (And.intro lX1 (And.intro lX2 (And.intro lY1 lY2)))
        clear hX1 hX2 hY1 hY2 hsd hsl htr lX1 lX2 lY1 lY2 HI HJ HS0
        subst eX eY
        have hst' : p ≤ st := by omega
        have HSL := Lib.hid (show s ≤ l ∧ s ≤ h ∧ t ≤ r ∧ t = h - s by omega)
        have hsl4 := HSL.out
        by_cases c1 : s < l
        · by_cases c2 : s < h
          · by_cases c3 : 0 < s
            · by_cases c4 : t < r
              · have k1 : (st : Int) < (mm : Int) := by omega
                have k1d : decide ((st : Int) < (mm : Int)) = true := decide_eq_true k1
                have k2 : (mm : Int) < (en : Int) := by omega
                have k2d : decide ((mm : Int) < (en : Int)) = true := decide_eq_true k2
                have j1 : (p : Int) < (st : Int) := by omega
                have j1d : decide ((p : Int) < (st : Int)) = true := decide_eq_true j1
                have j2 : (st : Int) < (md : Int) := by omega
                have j2d : decide ((st : Int) < (md : Int)) = true := decide_eq_true j2
                have i1 : (md : Int) < (en : Int) := by omega
                have i1d : decide ((md : Int) < (en : Int)) = true := decide_eq_true i1
                have i2 : (en : Int) < (bb : Int) := by omega
                have i2d : decide ((en : Int) < (bb : Int)) = true := decide_eq_true i2
                go_wp2_with fail
                refine (rotate_c enc henc tail blk cap _ (P ++ X1) X2 Y1 (Y2 ++ S) N _ _ _ wr (by have := HR0.out.keep HK.out; simpa using this) (by have := HNN.out; simp at this ⊢; omega) hn (by have := HLX.out; have := HL.out; simp; omega) (by have := HLX.out; have := HL.out; have := HSL.out; simp; omega) (by have := HLX.out; have := HL.out; have := HSL.out; simp; omega) (by have := HLX.out; omega) (by have := HLX.out; omega)).mono ?_
                rintro ee w4 ⟨rfl, hz3, hz4⟩
                have HKA : Hid (R.Keeps [blk] w w4) := Lib.hid ((HK.out.mono (Y := [blk]) (fun k hk => by simp at hk)).trans hz3 (fun k hk _ => hk))
                have HRA : Hid (RowS enc 3 tail blk (P ++ (X1 ++ (Y1 ++ (X2 ++ (Y2 ++ S))))) w4) := Lib.hid (by simpa using hz4)
                clear hz3 hz4
                go_wp2_with fail
                refine (IH.out P X1 Y1 (X2 ++ (Y2 ++ S)) _ _ _ _ _ rfl (by have := HLX.out; have := HSL.out; omega) (HK0.out.trans HKA.out (fun k hk _ => hk)) HRA.out (by have := HNN.out; simp at this ⊢; omega) (by have := HL.out; omega) (by have := HLX.out; have := HL.out; omega) (by have := HLX.out; have := HL.out; have := HSL.out; omega) (by have := HLX.out; omega) (by have := HLX.out; have := HSL.out; omega) (Srt.append.1 HX.out).1 (Srt.append.1 HY.out).1 (fun x hx y hy => HXY.out x (List.mem_append_left _ hx) y (List.mem_append_left _ hy)) (fun x hx => HXN.out x (List.mem_append_left _ hx)) (fun y hy => HYN.out y (List.mem_append_left _ hy))).mono ?_
                rintro ee w5 ⟨rfl, Z1, hz1, hz2, hz3, hz4⟩
                have HZ1 := Lib.hid (And.intro hz1 hz2)
                have HKB := Lib.hid (HKA.out.trans hz3 (fun k hk _ => hk))
                have HRB := Lib.hid hz4
                clear hz1 hz2 hz3 hz4
                go_wp2_with fail
                refine (IH.out (P ++ Z1) X2 Y2 S _ _ _ _ _ (by rw [List.append_assoc]) (by have := HLX.out; have := HSL.out; omega) (HK0.out.trans HKB.out (fun k hk _ => hk)) HRB.out (by have := HNN.out; have := HZ1.out.1.length_eq; simp at this ⊢; simp at *; omega) (by have := HZ1.out.1.length_eq; have := HLX.out; have := HL.out; simp at *; omega) (by have := HZ1.out.1.length_eq; have := HLX.out; have := HL.out; have := HSL.out; simp at *; omega) (by have := HZ1.out.1.length_eq; have := HLX.out; have := HL.out; have := HSL.out; simp at *; omega) (by have := HLX.out; omega) (by have := HLX.out; omega) (Srt.append.1 HX.out).2.1 (Srt.append.1 HY.out).2.1 (fun x hx y hy => HXY.out x (List.mem_append_right _ hx) y (List.mem_append_right _ hy)) (fun x hx => HXN.out x (List.mem_append_right _ hx)) (fun y hy => HYN.out y (List.mem_append_right _ hy))).mono ?_
                rintro ee w6 ⟨rfl, Z2, hz1, hz2, hz3, hz4⟩
                have HZ2 := Lib.hid (And.intro hz1 hz2)
                have HKC := Lib.hid (HKB.out.trans hz3 (fun k hk _ => hk))
                have HRC : Hid (RowS enc 3 tail blk (P ++ ((Z1 ++ Z2) ++ S)) _) := Lib.hid (by simpa using hz4)
                clear hz1 hz2 hz3 hz4
                go_wp2_with fail
                go_end0
                obtain ⟨q1, q2⟩ := merged HX.out HY.out HZ1.out.1 HZ1.out.2 HZ2.out.1 HZ2.out.2 HSD.out.1 HSD.out.2
                exact ⟨rfl, _, q1, q2, HKC.out, HRC.out⟩
              · have k1 : (st : Int) < (mm : Int) := by omega
                have k1d : decide ((st : Int) < (mm : Int)) = true := decide_eq_true k1
                have k2 : (mm : Int) < (en : Int) := by omega
                have k2d : decide ((mm : Int) < (en : Int)) = true := decide_eq_true k2
                have j1 : (p : Int) < (st : Int) := by omega
                have j1d : decide ((p : Int) < (st : Int)) = true := decide_eq_true j1
                have j2 : (st : Int) < (md : Int) := by omega
                have j2d : decide ((st : Int) < (md : Int)) = true := decide_eq_true j2
                have i1 : (md : Int) < (en : Int) := by omega
                have i1d : decide ((md : Int) < (en : Int)) = true := decide_eq_true i1
                have i2 : ¬ (en : Int) < (bb : Int) := by omega
                have i2d : decide ((en : Int) < (bb : Int)) = false := decide_eq_false i2
                have hy2 : Hid (Y2 = []) := Lib.hid (List.eq_nil_of_length_eq_zero (by have := HLX.out; omega))
                go_wp2_with fail
                refine (rotate_c enc henc tail blk cap _ (P ++ X1) X2 Y1 (Y2 ++ S) N _ _ _ wr (by have := HR0.out.keep HK.out; simpa using this) (by have := HNN.out; simp at this ⊢; omega) hn (by have := HLX.out; have := HL.out; simp; omega) (by have := HLX.out; have := HL.out; have := HSL.out; simp; omega) (by have := HLX.out; have := HL.out; have := HSL.out; simp; omega) (by have := HLX.out; omega) (by have := HLX.out; omega)).mono ?_
                rintro ee w4 ⟨rfl, hz3, hz4⟩
                have HKA : Hid (R.Keeps [blk] w w4) := Lib.hid ((HK.out.mono (Y := [blk]) (fun k hk => by simp at hk)).trans hz3 (fun k hk _ => hk))
                have HRA : Hid (RowS enc 3 tail blk (P ++ (X1 ++ (Y1 ++ (X2 ++ (Y2 ++ S))))) w4) := Lib.hid (by simpa using hz4)
                clear hz3 hz4
                go_wp2_with fail
                refine (IH.out P X1 Y1 (X2 ++ (Y2 ++ S)) _ _ _ _ _ rfl (by have := HLX.out; have := HSL.out; omega) (HK0.out.trans HKA.out (fun k hk _ => hk)) HRA.out (by have := HNN.out; simp at this ⊢; omega) (by have := HL.out; omega) (by have := HLX.out; have := HL.out; omega) (by have := HLX.out; have := HL.out; have := HSL.out; omega) (by have := HLX.out; omega) (by have := HLX.out; have := HSL.out; omega) (Srt.append.1 HX.out).1 (Srt.append.1 HY.out).1 (fun x hx y hy => HXY.out x (List.mem_append_left _ hx) y (List.mem_append_left _ hy)) (fun x hx => HXN.out x (List.mem_append_left _ hx)) (fun y hy => HYN.out y (List.mem_append_left _ hy))).mono ?_
                rintro ee w5 ⟨rfl, Z1, hz1, hz2, hz3, hz4⟩
                have HZ1 := Lib.hid (And.intro hz1 hz2)
                have HKB := Lib.hid (HKA.out.trans hz3 (fun k hk _ => hk))
                have HRB := Lib.hid hz4
                clear hz1 hz2 hz3 hz4
                go_wp2_with fail
                obtain ⟨Z2, hZ2⟩ : ∃ Z2, X2 ++ Y2 = Z2 := ⟨_, rfl⟩
                have HZ2 : Hid (Z2.Perm (X2 ++ Y2) ∧ Srt key Z2) := Lib.hid (by rw [← hZ2]; exact ⟨List.Perm.refl _, (by rw [hy2.out, List.append_nil]; exact (Srt.append.1 HX.out).2.1)⟩)
                have HKC := HKB
                have HRC : Hid (RowS enc 3 tail blk (P ++ ((Z1 ++ Z2) ++ S)) _) := Lib.hid (by rw [← hZ2]; simpa using HRB.out)
                clear hZ2
                go_end0
                obtain ⟨q1, q2⟩ := merged HX.out HY.out HZ1.out.1 HZ1.out.2 HZ2.out.1 HZ2.out.2 HSD.out.1 HSD.out.2
                exact ⟨rfl, _, q1, q2, HKC.out, HRC.out⟩
            · by_cases c4 : t < r
              · exfalso
                have := HM1.out
                omega
              · have k1 : (st : Int) < (mm : Int) := by omega
                have k1d : decide ((st : Int) < (mm : Int)) = true := decide_eq_true k1
                have k2 : (mm : Int) < (en : Int) := by omega
                have k2d : decide ((mm : Int) < (en : Int)) = true := decide_eq_true k2
                have j1 : ¬ (p : Int) < (st : Int) := by omega
                have j1d : decide ((p : Int) < (st : Int)) = false := decide_eq_false j1
                have j2 : (st : Int) < (md : Int) := by omega
                have j2d : decide ((st : Int) < (md : Int)) = true := decide_eq_true j2
                have i1 : (md : Int) < (en : Int) := by omega
                have i1d : decide ((md : Int) < (en : Int)) = true := decide_eq_true i1
                have i2 : ¬ (en : Int) < (bb : Int) := by omega
                have i2d : decide ((en : Int) < (bb : Int)) = false := decide_eq_false i2
                have hx1' : Hid (X1 = []) := Lib.hid (List.eq_nil_of_length_eq_zero (by have := HLX.out; omega))
                have hy2 : Hid (Y2 = []) := Lib.hid (List.eq_nil_of_length_eq_zero (by have := HLX.out; omega))
                go_wp2_with fail
                refine (rotate_c enc henc tail blk cap _ (P ++ X1) X2 Y1 (Y2 ++ S) N _ _ _ wr (by have := HR0.out.keep HK.out; simpa using this) (by have := HNN.out; simp at this ⊢; omega) hn (by have := HLX.out; have := HL.out; simp; omega) (by have := HLX.out; have := HL.out; have := HSL.out; simp; omega) (by have := HLX.out; have := HL.out; have := HSL.out; simp; omega) (by have := HLX.out; omega) (by have := HLX.out; omega)).mono ?_
                rintro ee w4 ⟨rfl, hz3, hz4⟩
                have HKA : Hid (R.Keeps [blk] w w4) := Lib.hid ((HK.out.mono (Y := [blk]) (fun k hk => by simp at hk)).trans hz3 (fun k hk _ => hk))
                have HRA : Hid (RowS enc 3 tail blk (P ++ (X1 ++ (Y1 ++ (X2 ++ (Y2 ++ S))))) w4) := Lib.hid (by simpa using hz4)
                clear hz3 hz4
                go_wp2_with fail
                obtain ⟨Z1, hZ1⟩ : ∃ Z1, X1 ++ Y1 = Z1 := ⟨_, rfl⟩
                have HZ1 : Hid (Z1.Perm (X1 ++ Y1) ∧ Srt key Z1) := Lib.hid (by rw [← hZ1]; exact ⟨List.Perm.refl _, (by rw [hx1'.out, List.nil_append]; exact (Srt.append.1 HY.out).1)⟩)
                have HKB := HKA
                have HRB : Hid (RowS enc 3 tail blk (P ++ (Z1 ++ (X2 ++ (Y2 ++ S)))) _) := Lib.hid (by rw [← hZ1, List.append_assoc]; exact HRA.out)
                clear hZ1
                obtain ⟨Z2, hZ2⟩ : ∃ Z2, X2 ++ Y2 = Z2 := ⟨_, rfl⟩
                have HZ2 : Hid (Z2.Perm (X2 ++ Y2) ∧ Srt key Z2) := Lib.hid (by rw [← hZ2]; exact ⟨List.Perm.refl _, (by rw [hy2.out, List.append_nil]; exact (Srt.append.1 HX.out).2.1)⟩)
                have HKC := HKB
                have HRC : Hid (RowS enc 3 tail blk (P ++ ((Z1 ++ Z2) ++ S)) _) := Lib.hid (by rw [← hZ2]; simpa using HRB.out)
                clear hZ2
                go_end0
                obtain ⟨q1, q2⟩ := merged HX.out HY.out HZ1.out.1 HZ1.out.2 HZ2.out.1 HZ2.out.2 HSD.out.1 HSD.out.2
                exact ⟨rfl, _, q1, q2, HKC.out, HRC.out⟩
          · by_cases c3 : 0 < s
            · by_cases c4 : t < r
              · have k1 : (st : Int) < (mm : Int) := by omega
                have k1d : decide ((st : Int) < (mm : Int)) = true := decide_eq_true k1
                have k2 : ¬ (mm : Int) < (en : Int) := by omega
                have k2d : decide ((mm : Int) < (en : Int)) = false := decide_eq_false k2
                have j1 : (p : Int) < (st : Int) := by omega
                have j1d : decide ((p : Int) < (st : Int)) = true := decide_eq_true j1
                have j2 : ¬ (st : Int) < (md : Int) := by omega
                have j2d : decide ((st : Int) < (md : Int)) = false := decide_eq_false j2
                have i1 : (md : Int) < (en : Int) := by omega
                have i1d : decide ((md : Int) < (en : Int)) = true := decide_eq_true i1
                have i2 : (en : Int) < (bb : Int) := by omega
                have i2d : decide ((en : Int) < (bb : Int)) = true := decide_eq_true i2
                have hy1' : Hid (Y1 = []) := Lib.hid (List.eq_nil_of_length_eq_zero (by have := HLX.out; omega))
                go_wp2_with fail
                have HKA : Hid (R.Keeps [blk] w wr) := Lib.hid (HK.out.mono (fun k hk => by simp at hk))
                have HRA : Hid (RowS enc 3 tail blk (P ++ (X1 ++ (Y1 ++ (X2 ++ (Y2 ++ S))))) wr) := Lib.hid (by have h9 := HR0.out.keep HK.out; rw [hy1'.out] at h9 ⊢; simpa using h9)
                obtain ⟨Z1, hZ1⟩ : ∃ Z1, X1 ++ Y1 = Z1 := ⟨_, rfl⟩
                have HZ1 : Hid (Z1.Perm (X1 ++ Y1) ∧ Srt key Z1) := Lib.hid (by rw [← hZ1]; exact ⟨List.Perm.refl _, (by rw [hy1'.out, List.append_nil]; exact (Srt.append.1 HX.out).1)⟩)
                have HKB := HKA
                have HRB : Hid (RowS enc 3 tail blk (P ++ (Z1 ++ (X2 ++ (Y2 ++ S)))) _) := Lib.hid (by rw [← hZ1, List.append_assoc]; exact HRA.out)
                clear hZ1
                refine (IH.out (P ++ Z1) X2 Y2 S _ _ _ _ _ (by rw [List.append_assoc]) (by have := HLX.out; have := HSL.out; omega) (HK0.out.trans HKB.out (fun k hk _ => hk)) HRB.out (by have := HNN.out; have := HZ1.out.1.length_eq; simp at this ⊢; simp at *; omega) (by have := HZ1.out.1.length_eq; have := HLX.out; have := HL.out; simp at *; omega) (by have := HZ1.out.1.length_eq; have := HLX.out; have := HL.out; have := HSL.out; simp at *; omega) (by have := HZ1.out.1.length_eq; have := HLX.out; have := HL.out; have := HSL.out; simp at *; omega) (by have := HLX.out; omega) (by have := HLX.out; omega) (Srt.append.1 HX.out).2.1 (Srt.append.1 HY.out).2.1 (fun x hx y hy => HXY.out x (List.mem_append_right _ hx) y (List.mem_append_right _ hy)) (fun x hx => HXN.out x (List.mem_append_right _ hx)) (fun y hy => HYN.out y (List.mem_append_right _ hy))).mono ?_
                rintro ee w6 ⟨rfl, Z2, hz1, hz2, hz3, hz4⟩
                have HZ2 := Lib.hid (And.intro hz1 hz2)
                have HKC := Lib.hid (HKB.out.trans hz3 (fun k hk _ => hk))
                have HRC : Hid (RowS enc 3 tail blk (P ++ ((Z1 ++ Z2) ++ S)) _) := Lib.hid (by simpa using hz4)
                clear hz1 hz2 hz3 hz4
                go_wp2_with fail
                go_end0
                obtain ⟨q1, q2⟩ := merged HX.out HY.out HZ1.out.1 HZ1.out.2 HZ2.out.1 HZ2.out.2 HSD.out.1 HSD.out.2
                exact ⟨rfl, _, q1, q2, HKC.out, HRC.out⟩
              · have k1 : (st : Int) < (mm : Int) := by omega
                have k1d : decide ((st : Int) < (mm : Int)) = true := decide_eq_true k1
                have k2 : ¬ (mm : Int) < (en : Int) := by omega
                have k2d : decide ((mm : Int) < (en : Int)) = false := decide_eq_false k2
                have j1 : (p : Int) < (st : Int) := by omega
                have j1d : decide ((p : Int) < (st : Int)) = true := decide_eq_true j1
                have j2 : ¬ (st : Int) < (md : Int) := by omega
                have j2d : decide ((st : Int) < (md : Int)) = false := decide_eq_false j2
                have i1 : (md : Int) < (en : Int) := by omega
                have i1d : decide ((md : Int) < (en : Int)) = true := decide_eq_true i1
                have i2 : ¬ (en : Int) < (bb : Int) := by omega
                have i2d : decide ((en : Int) < (bb : Int)) = false := decide_eq_false i2
                have hy1' : Hid (Y1 = []) := Lib.hid (List.eq_nil_of_length_eq_zero (by have := HLX.out; omega))
                have hy2 : Hid (Y2 = []) := Lib.hid (List.eq_nil_of_length_eq_zero (by have := HLX.out; omega))
                go_wp2_with fail
                have HKA : Hid (R.Keeps [blk] w wr) := Lib.hid (HK.out.mono (fun k hk => by simp at hk))
                have HRA : Hid (RowS enc 3 tail blk (P ++ (X1 ++ (Y1 ++ (X2 ++ (Y2 ++ S))))) wr) := Lib.hid (by have h9 := HR0.out.keep HK.out; rw [hy1'.out] at h9 ⊢; simpa using h9)
                obtain ⟨Z1, hZ1⟩ : ∃ Z1, X1 ++ Y1 = Z1 := ⟨_, rfl⟩
                have HZ1 : Hid (Z1.Perm (X1 ++ Y1) ∧ Srt key Z1) := Lib.hid (by rw [← hZ1]; exact ⟨List.Perm.refl _, (by rw [hy1'.out, List.append_nil]; exact (Srt.append.1 HX.out).1)⟩)
                have HKB := HKA
                have HRB : Hid (RowS enc 3 tail blk (P ++ (Z1 ++ (X2 ++ (Y2 ++ S)))) _) := Lib.hid (by rw [← hZ1, List.append_assoc]; exact HRA.out)
                clear hZ1
                obtain ⟨Z2, hZ2⟩ : ∃ Z2, X2 ++ Y2 = Z2 := ⟨_, rfl⟩
                have HZ2 : Hid (Z2.Perm (X2 ++ Y2) ∧ Srt key Z2) := Lib.hid (by rw [← hZ2]; exact ⟨List.Perm.refl _, (by rw [hy2.out, List.append_nil]; exact (Srt.append.1 HX.out).2.1)⟩)
                have HKC := HKB
                have HRC : Hid (RowS enc 3 tail blk (P ++ ((Z1 ++ Z2) ++ S)) _) := Lib.hid (by rw [← hZ2]; simpa using HRB.out)
                clear hZ2
                go_end0
                obtain ⟨q1, q2⟩ := merged HX.out HY.out HZ1.out.1 HZ1.out.2 HZ2.out.1 HZ2.out.2 HSD.out.1 HSD.out.2
                exact ⟨rfl, _, q1, q2, HKC.out, HRC.out⟩
            · by_cases c4 : t < r
              · exfalso
                have := HM1.out
                omega
              · exfalso
                have := HM1.out
                omega
        · by_cases c2 : s < h
          · by_cases c3 : 0 < s
            · exfalso
              have := HM1.out
              omega
            · exfalso
              have := HM1.out
              omega
          · by_cases c3 : 0 < s
            · exfalso
              have := HM1.out
              omega
            · exfalso
              have := HM1.out
              omega
  · exfalso; omega
end Go.Proofs.Ytcpojohpmcnnhaa.A
