/- RoomsChecks: Check returns OK exactly for the correct choices -/
import Derived.Deep.RegionHeld3
import Derived.Deep.DeepCutAuto
import Derived.StillTactics
import Derived.Test.YtpjobcnfjpbaeaaRows
import Derived.WalkKit
import Derived.ProofKit
import Derived.OpenShut
import Derived.ShutString
import Derived.ChangeOld
import Derived.Below
import Derived.SizedLaws
import Derived.Deep.Slices
import Derived.Deep.Strs
import Derived.Lib.SmallJoins
import Derived.Test.YtpjobcnfjpbaeaaZf4
set_option linter.unusedSimpArgs false
set_option linter.unusedVariables false

namespace Go.Proofs.Ytpjobcnfjpbaeaa.M
open Go.RowKit Go.Proofs.YtpjobcnfjpbaeaaW.PrintWords Go.Proofs.YtpjobcnfjpbaeaaW.PrintLast Go.Proofs.YtpjobcnfjpbaeaaW.PrintMore
open Go.Proofs.Ytpjobcnfjpbaeaa.PA Go.Proofs.Ytpjobcnfjpbaeaa.A
theorem wrap_id {x : Int} (h : -4611686018427387904 ≤ x ∧ x ≤ 4611686018427387904) : wrap64 x = x := by unfold wrap64; omega
theorem wrap_pred {i n : Nat} (_h : i < n) (hn : n ≤ 1000000) (h0 : (i : Int) > 0) : wrap64 ((i : Int) - 1) = ((i - 1 : Nat) : Int) := by unfold wrap64; omega
theorem refRev_l0 {l : List S47} {rooms tk : List Int} (hg : A.Good l rooms) (ha : Asc l.length tk) : ∀ d i (s : Int), i + d = tk.length → 0 ≤ s → s ≤ i * 1000000 →
    Ev (fun k => turndownref08_Revenue.l0 k l tk s (i : Int)) (s + lsum (fun i => (l.getD i z47).f2) (tk.drop i)) := by
  have hL := hg.many
  have htk := asc_len ha
  intro d
  induction d with
  | zero =>
    intro i s hi _ _
    obtain rfl : i = tk.length := by omega
    refine Ev.step (f := fun _ => some s) (fun k => ?_) (by rw [List.drop_length]; simpa [lsum] using Ev.now s)
    rw [turndownref08_Revenue.l0, if_neg (by omega)]
  | succ d ih =>
    intro i s hi h0 h1
    have hil : i < tk.length := by omega
    obtain ⟨p0, p1⟩ := pos_at ha hil
    have hx := (inst_ok hg).price (tk.getD i 0).toNat (by show _ < l.length; omega)
    have hx' : 0 ≤ (l.getD (tk.getD i 0).toNat z47).f2 ∧ (l.getD (tk.getD i 0).toNat z47).f2 ≤ 1000000 := hx
    have ert : rd_T47 l (tk.getD i 0) = l.getD (tk.getD i 0).toNat z47 := rfl
    rw [drop_cons (z := 0) hil, lsum, ← Int.add_assoc]
    refine Ev.step (fun k => ?_) (ih (i + 1) (s + (l.getD (tk.getD i 0).toNat z47).f2) (by omega) (by omega) (by omega))
    rw [turndownref08_Revenue.l0, if_pos (by omega), if_pos (by omega), rdI, if_pos p0, if_pos p1, ert, wrap_id (x := s + (l.getD (tk.getD i 0).toNat z47).f2) (by omega), wrap_succ hil (by omega)]
theorem refRev_ev {l : List S47} {rooms tk : List Int} (hg : A.Good l rooms) (ha : Asc l.length tk) : Ev (fun k => turndownref08_Revenue.f k l tk) ((inst l rooms).Rev (ind tk)) := by
  have h := refRev_l0 hg ha tk.length 0 0 (by omega) (by omega) (by omega)
  rw [List.drop_zero, Int.zero_add, lsum_ind _ ha] at h
  exact h
theorem fits_l0 {l : List S47} {rooms tk : List Int} (htk : tk.length ≤ 1000) {r : Bool} (ha : Asc l.length tk) (h : Ev (fun k => turndownref08_Fits.l1 k l rooms tk 0) r) : ∀ d i, i + d = tk.length →
    Ev (fun k => turndownref08_Fits.l0 k l rooms tk (i : Int)) r := by
  intro d
  induction d with
  | zero =>
    intro i hi
    obtain rfl : i = tk.length := by omega
    refine Ev.step (fun k => ?_) h
    rw [turndownref08_Fits.l0, if_neg (by omega)]
  | succ d ih =>
    intro i hi
    have hil : i < tk.length := by omega
    obtain ⟨p0, p1⟩ := pos_at ha hil
    refine Ev.step (fun k => ?_) (ih (i + 1) (by omega))
    rw [turndownref08_Fits.l0, if_pos (by omega), if_pos (by omega), rdI, if_neg (by omega), if_neg (by omega)]
    by_cases hi0 : (i : Int) > 0
    · have hasc := asc_at ha (show i - 1 < i by omega) hil
      rw [if_pos hi0, wrap_pred hil (by omega) hi0, if_pos (by omega), if_pos (by omega), rdI, if_neg (by omega), wrap_succ hil (by omega)]
    · rw [if_neg hi0, wrap_succ hil (by omega)]
theorem fits_bad {l : List S47} {rooms tk : List Int} (htk : tk.length ≤ 1000) : ∀ d i, i + d = tk.length → (∃ j, i ≤ j ∧ j < tk.length ∧ posOK l.length tk j = false) → Ev (fun k => turndownref08_Fits.l0 k l rooms tk (i : Int)) false := by
  intro d
  induction d with
  | zero => intro i hi ⟨j, h1, h2, _⟩; omega
  | succ d ih =>
    intro i hi ⟨j, hj1, hj2, hj3⟩
    have hil : i < tk.length := by omega
    by_cases p0 : tk.getD i 0 < 0
    · refine Ev.step (f := fun _ => some false) (fun k => ?_) (Ev.now _)
      rw [turndownref08_Fits.l0, if_pos (by omega), if_pos (by omega), rdI, if_pos p0]
    by_cases p1 : tk.getD i 0 ≥ l.length
    · refine Ev.step (f := fun _ => some false) (fun k => ?_) (Ev.now _)
      rw [turndownref08_Fits.l0, if_pos (by omega), if_pos (by omega), rdI, if_neg p0, if_pos p1]
    have next : i ≠ j → Ev (fun k => turndownref08_Fits.l0 k l rooms tk ((i + 1 : Nat) : Int)) false := fun e => ih (i + 1) (by omega) ⟨j, by omega, hj2, hj3⟩
    by_cases hi0 : (i : Int) > 0
    · by_cases hlt : tk.getD (i - 1) 0 ≥ tk.getD i 0
      · refine Ev.step (f := fun _ => some false) (fun k => ?_) (Ev.now _)
        rw [turndownref08_Fits.l0, if_pos (by omega), if_pos (by omega), rdI, if_neg p0, if_neg p1, if_pos hi0, wrap_pred hil (by omega) hi0, if_pos (by omega), if_pos (by omega), rdI, if_pos hlt]
      · refine Ev.step (fun k => ?_) (next ?_)
        · rw [turndownref08_Fits.l0, if_pos (by omega), if_pos (by omega), rdI, if_neg p0, if_neg p1, if_pos hi0, wrap_pred hil (by omega) hi0, if_pos (by omega), if_pos (by omega), rdI, if_neg hlt, wrap_succ hil (by omega)]
        · rintro rfl
          unfold posOK at hj3
          rw [decide_eq_true (by omega : 0 ≤ tk.getD i 0), decide_eq_true (by omega : tk.getD i 0 < l.length), decide_eq_true (by omega : tk.getD (i - 1) 0 < tk.getD i 0)] at hj3
          simp at hj3
    · refine Ev.step (fun k => ?_) (next ?_)
      · rw [turndownref08_Fits.l0, if_pos (by omega), if_pos (by omega), rdI, if_neg p0, if_neg p1, if_neg hi0, wrap_succ hil (by omega)]
      · rintro rfl
        unfold posOK at hj3
        rw [decide_eq_true (by omega : 0 ≤ tk.getD i 0), decide_eq_true (by omega : tk.getD i 0 < l.length), decide_eq_true (by omega : i = 0)] at hj3
        simp at hj3
theorem fits_l2 {l : List S47} {rooms tk : List Int} (htk : tk.length ≤ 1000) (hn : rooms.length ≤ 1000) (ha : Asc l.length tk) {q : Nat} (hq : q < rooms.length) {T : Int} {r : Bool} (h1 : rooms.getD q 0 < T → r = false) (h2 : T ≤ rooms.getD q 0 → Ev (fun k => turndownref08_Fits.l1 k l rooms tk ((q + 1 : Nat) : Int)) r) :
    ∀ d i (c : Int), i + d = tk.length → 0 ≤ c → c ≤ i → c + lsum (fun i => covI (l.getD i z47) q) (tk.drop i) = T → Ev (fun k => turndownref08_Fits.l2 k l rooms tk (q : Int) c (i : Int)) r := by
  intro d
  induction d with
  | zero =>
    intro i c hi _ _ hT
    obtain rfl : i = tk.length := by omega
    rw [List.drop_length] at hT
    simp only [lsum, Int.add_zero] at hT
    subst hT
    by_cases hgt : c > rooms.getD q 0
    · rw [h1 hgt]
      refine Ev.step (f := fun _ => some false) (fun k => ?_) (Ev.now _)
      rw [turndownref08_Fits.l2, if_neg (by omega), if_pos (by omega), if_pos (by omega), rdI, if_pos hgt]
    · refine Ev.step (fun k => ?_) (h2 (by omega))
      rw [turndownref08_Fits.l2, if_neg (by omega), if_pos (by omega), if_pos (by omega), rdI, if_neg hgt, wrap_succ hq (by omega)]
  | succ d ih =>
    intro i c hi h0 hc hT
    have hil : i < tk.length := by omega
    obtain ⟨p0, p1⟩ := pos_at ha hil
    have ert : rd_T47 l (tk.getD i 0) = l.getD (tk.getD i 0).toNat z47 := rfl
    rw [drop_cons (z := 0) hil, lsum] at hT
    have hcov : covI (l.getD (tk.getD i 0).toNat z47) q = if (l.getD (tk.getD i 0).toNat z47).f0 ≤ q ∧ (q : Int) < (l.getD (tk.getD i 0).toNat z47).f1 then 1 else 0 := rfl
    by_cases a : (l.getD (tk.getD i 0).toNat z47).f0 ≤ q
    · by_cases b : (q : Int) < (l.getD (tk.getD i 0).toNat z47).f1
      · rw [hcov, if_pos ⟨a, b⟩] at hT
        refine Ev.step (fun k => ?_) (ih (i + 1) (c + 1) (by omega) (by omega) (by omega) (by omega))
        rw [turndownref08_Fits.l2, if_pos (by omega), if_pos (by omega), rdI, if_pos p0, if_pos p1, ert, if_pos a, if_pos b, wrap_id (x := c + 1) (by omega), wrap_succ hil (by omega)]
      · rw [hcov, if_neg (fun h => b h.2)] at hT
        refine Ev.step (fun k => ?_) (ih (i + 1) c (by omega) (by omega) (by omega) (by omega))
        rw [turndownref08_Fits.l2, if_pos (by omega), if_pos (by omega), rdI, if_pos p0, if_pos p1, ert, if_pos a, if_neg b, wrap_succ hil (by omega)]
    · rw [hcov, if_neg (fun h => a h.1)] at hT
      refine Ev.step (fun k => ?_) (ih (i + 1) c (by omega) (by omega) (by omega) (by omega))
      rw [turndownref08_Fits.l2, if_pos (by omega), if_pos (by omega), rdI, if_pos p0, if_pos p1, ert, if_neg a, wrap_succ hil (by omega)]
open Classical in
theorem fits_l1 {l : List S47} {rooms tk : List Int} (htk : tk.length ≤ 1000) (hn : rooms.length ≤ 1000) (ha : Asc l.length tk) : ∀ d q, q + d = rooms.length →
    Ev (fun k => turndownref08_Fits.l1 k l rooms tk (q : Int)) (decide (∀ j, q ≤ j → j < rooms.length → lsum (fun i => covI (l.getD i z47) j) tk ≤ rooms.getD j 0)) := by
  intro d
  induction d with
  | zero =>
    intro q hq
    obtain rfl : q = rooms.length := by omega
    rw [decide_eq_true (fun j h1 h2 => by omega)]
    refine Ev.step (f := fun _ => some true) (fun k => ?_) (Ev.now _)
    rw [turndownref08_Fits.l1, if_neg (by omega)]
  | succ d ih =>
    intro q hq
    have hql : q < rooms.length := by omega
    refine Ev.step (fun k => ?_) (fits_l2 htk hn ha hql (T := lsum (fun i => covI (l.getD i z47) q) tk) (fun hgt => ?_) (fun hle => ?_) tk.length 0 0 (by omega) (by omega) (by omega) (by rw [List.drop_zero]; omega))
    · rw [turndownref08_Fits.l1, if_pos (by omega)]; rfl
    · rw [decide_eq_false_iff_not]
      intro h
      have := h q (Nat.le_refl _) hql
      omega
    · have e : decide (∀ j, q ≤ j → j < rooms.length → lsum (fun i => covI (l.getD i z47) j) tk ≤ rooms.getD j 0) = decide (∀ j, q + 1 ≤ j → j < rooms.length → lsum (fun i => covI (l.getD i z47) j) tk ≤ rooms.getD j 0) := by
        rw [decide_eq_decide]
        constructor
        · intro h j h1 h2; exact h j (by omega) h2
        · intro h j h1 h2
          by_cases ej : j = q
          · subst ej; exact hle
          · exact h j (by omega) h2
      rw [e]
      exact ih (q + 1) (by omega)
structure FitsP (l : List S47) (rooms tk : List Int) : Prop where
  asc : Asc l.length tk
  fit : (inst l rooms).Fit (ind tk)
open Classical in
theorem fits_ev {l : List S47} {rooms tk : List Int} (hg : A.Good l rooms) (htk : tk.length ≤ 1000) : Ev (fun k => turndownref08_Fits.f k l rooms tk) (decide (FitsP l rooms tk)) := by
  have hn := hg.nights
  by_cases ha : Asc l.length tk
  · have h := fits_l0 (rooms := rooms) htk ha (fits_l1 (rooms := rooms) htk (by omega) ha rooms.length 0 (by omega)) tk.length 0 (by omega)
    have e : decide (∀ j, 0 ≤ j → j < rooms.length → lsum (fun i => covI (l.getD i z47) j) tk ≤ rooms.getD j 0) = decide (FitsP l rooms tk) := by
      rw [decide_eq_decide]
      constructor
      · intro h
        exact ⟨ha, fun i _ => ind_01 tk i, fun k hk => by rw [← cnt_fit hg ha]; exact h k (Nat.zero_le _) hk⟩
      · intro h j _ hj
        rw [cnt_fit hg ha]
        exact h.fit.fit j hj
    rw [e] at h
    exact h
  · obtain ⟨j, hj1, hj2⟩ := not_asc ha
    rw [decide_eq_false (fun h => ha h.asc)]
    exact fits_bad htk tk.length 0 (by omega) ⟨j, by omega, hj1, hj2⟩
theorem bound_l2 {l : List S47} {prices : List Int} {i : Nat} (hil : i < l.length) (hL : l.length ≤ 1000) (hp : ∀ j, j < prices.length → 0 ≤ prices.getD j 0 ∧ prices.getD j 0 ≤ 1099511627776) (ht : (l.getD i z47).f1 ≤ prices.length) (hpl : prices.length ≤ 60) {s T : Int} (hs : 0 ≤ s ∧ s ≤ 1000000000000000000) {r : Int} (hT : T ≤ 1000000)
    (h : Ev (fun k => turndownref08_Bound.l1 k l prices (s + max 0 T) ((i + 1 : Nat) : Int)) r) : ∀ (d : Nat) (q m : Int), q + (d : Int) = max q (l.getD i z47).f1 → 0 ≤ q → -(q * 1099511627776) ≤ m → m ≤ 1000000 → m - sumTo d (fun k => prices.getD (q.toNat + k) 0) = T →
    Ev (fun k => turndownref08_Bound.l2 k l prices s (i : Int) m q) r := by
  intro d
  induction d with
  | zero =>
    intro q m hq h0 hm1 hm2 hmT
    simp only [sumTo, Int.sub_zero] at hmT
    subst hmT
    refine Ev.step (fun k => ?_) h
    rw [turndownref08_Bound.l2, if_pos (by omega), if_pos (by omega), rdT47, if_neg (by omega), wrap_succ hil (by omega)]
    have e : wrap64 (s + mx m 0) = s + max 0 m := by
      unfold mx
      split
      · rw [show max 0 m = 0 by omega]; exact wrap_id (by omega)
      · rw [show max 0 m = m by omega]; exact wrap_id (by omega)
    rw [e]
  | succ d ih =>
    intro q m hq h0 hm1 hm2 hmT
    have hlt : q < (l.getD i z47).f1 := by omega
    obtain ⟨q, rfl⟩ := Int.eq_ofNat_of_zero_le h0
    have hpq := hp q (by omega)
    rw [Int.toNat_natCast] at hmT
    have hsum : sumTo (d + 1) (fun k => prices.getD (q + k) 0) = prices.getD q 0 + sumTo d (fun k => prices.getD (q + 1 + k) 0) := by
      have := sumTo_split 1 d (fun k => prices.getD (q + k) 0)
      rw [Nat.add_comm 1 d] at this
      rw [this]
      simp only [sumTo, Nat.add_zero, Int.zero_add]
      congr 1
      exact sumTo_congr (fun k _ => by rw [show q + (1 + k) = q + 1 + k by omega])
    have hcast : ((q + 1 : Nat) : Int).toNat = q + 1 := Int.toNat_natCast _
    refine Ev.step (fun k => ?_) (ih ((q + 1 : Nat) : Int) (m - prices.getD q 0) (by omega) (by omega) (by omega) (by omega) (by rw [hcast]; omega))
    rw [turndownref08_Bound.l2, if_pos (by omega), if_pos (by omega), rdT47, if_pos hlt, if_pos (by omega), if_pos (by omega), rdI, wrap_id (x := m - prices.getD q 0) (by omega), wrap_succ (show q < 60 by omega) (by omega)]
theorem bound_l1 {l : List S47} {rooms prices : List Int} (hg : A.Good l rooms) (hlen : prices.length = rooms.length) (hp : ∀ j, j < rooms.length → 0 ≤ prices.getD j 0 ∧ prices.getD j 0 ≤ 1099511627776) : ∀ d i (s : Int), i + d = l.length → 0 ≤ s → s ≤ 100000000000000000 + i * 1000000 →
    Ev (fun k => turndownref08_Bound.l1 k l prices s (i : Int)) (s + sumTo d (fun k => max 0 ((inst l rooms).p (i + k) - (inst l rooms).pay (fun k => prices.getD k 0) (i + k)))) := by
  have hL := hg.many
  have hn := hg.nights
  intro d
  induction d with
  | zero =>
    intro i s hi _ _
    obtain rfl : i = l.length := by omega
    refine Ev.step (f := fun _ => some s) (fun k => ?_) (by simpa [sumTo] using Ev.now s)
    rw [turndownref08_Bound.l1, if_neg (by omega)]
  | succ d ih =>
    intro i s hi h0 h1
    have hil : i < l.length := by omega
    have hx := hg.from_ (l.getD i z47) (by rw [List.getD_eq_getElem?_getD, List.getElem?_eq_getElem hil]; exact List.getElem_mem hil)
    have hpr : 0 ≤ (l.getD i z47).f2 ∧ (l.getD i z47).f2 ≤ 1000000 := (inst_ok hg).price i hil
    have hpay : (inst l rooms).pay (fun k => prices.getD k 0) i = sumTo ((l.getD i z47).f1.toNat - (l.getD i z47).f0.toNat) (fun k => prices.getD ((l.getD i z47).f0.toNat + k) 0) := rfl
    have hpay0 : 0 ≤ (inst l rooms).pay (fun k => prices.getD k 0) i := by
      rw [hpay]
      exact sumTo_nonneg (fun k hk => (hp _ (by omega)).1)
    have hpi : (inst l rooms).p i = (l.getD i z47).f2 := rfl
    have hsum : sumTo (d + 1) (fun k => max 0 ((inst l rooms).p (i + k) - (inst l rooms).pay (fun k => prices.getD k 0) (i + k))) = max 0 ((inst l rooms).p i - (inst l rooms).pay (fun k => prices.getD k 0) i) + sumTo d (fun k => max 0 ((inst l rooms).p (i + 1 + k) - (inst l rooms).pay (fun k => prices.getD k 0) (i + 1 + k))) := by
      have := sumTo_split 1 d (fun k => max 0 ((inst l rooms).p (i + k) - (inst l rooms).pay (fun k => prices.getD k 0) (i + k)))
      rw [Nat.add_comm 1 d] at this
      rw [this]
      simp only [sumTo, Nat.add_zero, Int.zero_add]
      congr 1
      exact sumTo_congr (fun k _ => by rw [show i + (1 + k) = i + 1 + k by omega])
    rw [hsum, ← Int.add_assoc]
    have h2 := ih (i + 1) (s + max 0 ((inst l rooms).p i - (inst l rooms).pay (fun k => prices.getD k 0) i)) (by omega) (by omega) (by omega)
    refine Ev.step (fun k => ?_) (bound_l2 hil (by omega) (fun j hj => hp j (by omega)) (by omega) (by omega) (s := s) (T := (inst l rooms).p i - (inst l rooms).pay (fun k => prices.getD k 0) i) (by omega) (by omega) h2 ((l.getD i z47).f1.toNat - (l.getD i z47).f0.toNat) (l.getD i z47).f0 (l.getD i z47).f2 (by omega) (by omega) (by omega) (by omega) (by rw [hpi, hpay]))
    rw [turndownref08_Bound.l1, if_pos (by omega), if_pos (by omega), rdT47]
theorem bound_l0 {l : List S47} {rooms prices : List Int} (hg : A.Good l rooms) (hlen : prices.length = rooms.length) (hp : ∀ j, j < rooms.length → 0 ≤ prices.getD j 0 ∧ prices.getD j 0 ≤ 1099511627776) {r : Int}
    (h : Ev (fun k => turndownref08_Bound.l1 k l prices (sumTo rooms.length (fun k => rooms.getD k 0 * prices.getD k 0)) 0) r) : ∀ d q, q + d = rooms.length → Ev (fun k => turndownref08_Bound.l0 k l rooms prices (sumTo q (fun k => rooms.getD k 0 * prices.getD k 0)) (q : Int)) r := by
  have hn := hg.nights
  intro d
  induction d with
  | zero =>
    intro q hq
    obtain rfl : q = rooms.length := by omega
    refine Ev.step (fun k => ?_) h
    rw [turndownref08_Bound.l0, if_neg (by omega)]
  | succ d ih =>
    intro q hq
    have hql : q < rooms.length := by omega
    have hroom : ∀ j, j < rooms.length → 0 ≤ rooms.getD j 0 ∧ rooms.getD j 0 ≤ 8 := fun j hj => (inst_ok hg).room j hj
    have h1 := sumTo_pay (q := q) (fun j hj => hroom j (by omega)) (fun j hj => hp j (by omega))
    have h2 := hroom q hql
    have h3 := hp q hql
    have h4 : 0 ≤ rooms.getD q 0 * prices.getD q 0 := Int.mul_nonneg h2.1 h3.1
    have h5 : rooms.getD q 0 * prices.getD q 0 ≤ 8 * 1099511627776 := Int.mul_le_mul h2.2 h3.2 h3.1 (by omega)
    have h6 := ih (q + 1) (by omega)
    simp only [sumTo] at h6
    refine Ev.step (fun k => ?_) h6
    rw [turndownref08_Bound.l0, if_pos (by omega), if_pos (by omega), if_pos (by omega), rdI, rdI, wrap_id (x := rooms.getD q 0 * prices.getD q 0) (by omega), wrap_id (x := sumTo q (fun k => rooms.getD k 0 * prices.getD k 0) + rooms.getD q 0 * prices.getD q 0) (by omega), wrap_succ hql (by omega)]
theorem bound_ev {l : List S47} {rooms prices : List Int} (hg : A.Good l rooms) (hlen : prices.length = rooms.length) (hp : ∀ j, j < rooms.length → 0 ≤ prices.getD j 0 ∧ prices.getD j 0 ≤ 1099511627776) :
    Ev (fun k => turndownref08_Bound.f k l rooms prices) ((inst l rooms).Bd (fun k => prices.getD k 0)) := by
  have hn := hg.nights
  have hroom : ∀ j, j < rooms.length → 0 ≤ rooms.getD j 0 ∧ rooms.getD j 0 ≤ 8 := fun j hj => (inst_ok hg).room j hj
  have h1 := sumTo_pay (q := rooms.length) hroom hp
  have h2 := bound_l1 hg hlen hp l.length 0 (sumTo rooms.length (fun k => rooms.getD k 0 * prices.getD k 0)) (by omega) (by omega) (by omega)
  simp only [Nat.zero_add] at h2
  exact bound_l0 hg hlen hp h2 rooms.length 0 (by omega)
end Go.Proofs.Ytpjobcnfjpbaeaa.M

namespace Go.Proofs.Ytpjobcnfjpbaeaa.PA
open Go.RowKit Go.Proofs.YtpjobcnfjpbaeaaW.PrintWords Go.Proofs.YtpjobcnfjpbaeaaW.PrintLast Go.Proofs.YtpjobcnfjpbaeaaW.PrintMore
attribute [local go_sem] max2_int min2_int max_two min_two max_three min_three max_four min_four
set_option linter.unusedVariables false
set_option linter.unusedSimpArgs false
mutual
def turndownref08_Right.j0 : Nat → List (S47) → List Int → Bool → List Int → List Int → Option (Bool)
  | 0, _, _, _, _, _ => none
  | k + 1, x0, x1, x21, x313000, x313001 => if x21 = true then (some false) else (turndownref08_Right.l0 k x0 x1 0 x313000 x313001)
def turndownref08_Right.l0 : Nat → List (S47) → List Int → Int → List Int → List Int → Option (Bool)
  | 0, _, _, _, _, _ => none
  | k + 1, x0, x1, x7, x313000, x313001 => if x7 < (x313001.length : Int) then (if 0 ≤ x7 then (if (rd x313001 x7) < 0 then (some false) else (if (rd x313001 x7) > 1099511627776 then (some false) else (turndownref08_Right.l0 k x0 x1 (wrap64 (x7 + 1)) x313000 x313001))) else (none)) else ((turndownref08_Revenue.f k x0 x313000).bind fun t316 => ((turndownref08_Bound.f k x0 x1 x313001).bind fun t317 => (some (t316 == t317))))
end
def turndownref08_Right.f (k : Nat) (l0 : List (S47)) (l1 : List Int) (l2_0 : List Int) (l2_1 : List Int) : Option (Bool) := (turndownref08_Fits.f k l0 l1 l2_0).bind fun t313 => (if t313 = true then (turndownref08_Right.j0 k l0 l1 ((l2_1.length : Int) != (l1.length : Int)) l2_0 l2_1) else (turndownref08_Right.j0 k l0 l1 true l2_0 l2_1))
theorem turndownref08_Right.mono_l : ∀ k, (∀ y0 y1 y2 y3 y4, LeO (turndownref08_Right.j0 k y0 y1 y2 y3 y4) (turndownref08_Right.j0 (k + 1) y0 y1 y2 y3 y4)) ∧ (∀ y0 y1 y2 y3 y4, LeO (turndownref08_Right.l0 k y0 y1 y2 y3 y4) (turndownref08_Right.l0 (k + 1) y0 y1 y2 y3 y4))
  | 0 => ⟨fun _ _ _ _ _ r h => by simp [turndownref08_Right.j0] at h, fun _ _ _ _ _ r h => by simp [turndownref08_Right.l0] at h⟩
  | k + 1 => by
    obtain ⟨ih0, ih1⟩ := turndownref08_Right.mono_l k
    refine ⟨?_, ?_⟩
    · intro y0 y1 y2 y3 y4
      unfold turndownref08_Right.j0
      repeat' first
      | (with_reducible exact ih0 _ _ _ _ _)
      | (with_reducible exact ih1 _ _ _ _ _)
      | (with_reducible exact turndownref08_Bound.mono _ _ _ _)
      | (with_reducible exact turndownref08_Fits.mono _ _ _ _)
      | (with_reducible exact turndownref08_Revenue.mono _ _ _)
      | (with_reducible exact LeO.refl _)
      | (with_reducible exact LeO.none _)
      | (with_reducible refine LeO.ite ?_ ?_)
      | (with_reducible refine LeO.bind ?_ (fun _ => ?_))
      | exact ih0 _ _ _ _ _
      | exact ih1 _ _ _ _ _
      | exact turndownref08_Bound.mono _ _ _ _
      | exact turndownref08_Fits.mono _ _ _ _
      | exact turndownref08_Revenue.mono _ _ _
      | exact LeO.none _
      | refine LeO.ite ?_ ?_
      | refine LeO.bind ?_ (fun _ => ?_)
    · intro y0 y1 y2 y3 y4
      unfold turndownref08_Right.l0
      repeat' first
      | (with_reducible exact ih0 _ _ _ _ _)
      | (with_reducible exact ih1 _ _ _ _ _)
      | (with_reducible exact turndownref08_Bound.mono _ _ _ _)
      | (with_reducible exact turndownref08_Fits.mono _ _ _ _)
      | (with_reducible exact turndownref08_Revenue.mono _ _ _)
      | (with_reducible exact LeO.refl _)
      | (with_reducible exact LeO.none _)
      | (with_reducible refine LeO.ite ?_ ?_)
      | (with_reducible refine LeO.bind ?_ (fun _ => ?_))
      | exact ih0 _ _ _ _ _
      | exact ih1 _ _ _ _ _
      | exact turndownref08_Bound.mono _ _ _ _
      | exact turndownref08_Fits.mono _ _ _ _
      | exact turndownref08_Revenue.mono _ _ _
      | exact LeO.none _
      | refine LeO.ite ?_ ?_
      | refine LeO.bind ?_ (fun _ => ?_)
theorem turndownref08_Right.mono : ∀ a0 a1 a2 a3 k, LeO (turndownref08_Right.f k a0 a1 a2 a3) (turndownref08_Right.f (k + 1) a0 a1 a2 a3) := by
  intro a0 a1 a2 a3 k
  obtain ⟨ih0, ih1⟩ := turndownref08_Right.mono_l k
  unfold turndownref08_Right.f
  repeat' first
      | (with_reducible exact ih0 _ _ _ _ _)
      | (with_reducible exact ih1 _ _ _ _ _)
      | (with_reducible exact turndownref08_Bound.mono _ _ _ _)
      | (with_reducible exact turndownref08_Fits.mono _ _ _ _)
      | (with_reducible exact turndownref08_Revenue.mono _ _ _)
      | (with_reducible exact LeO.refl _)
      | (with_reducible exact LeO.none _)
      | (with_reducible refine LeO.ite ?_ ?_)
      | (with_reducible refine LeO.bind ?_ (fun _ => ?_))
      | exact ih0 _ _ _ _ _
      | exact ih1 _ _ _ _ _
      | exact turndownref08_Bound.mono _ _ _ _
      | exact turndownref08_Fits.mono _ _ _ _
      | exact turndownref08_Revenue.mono _ _ _
      | exact LeO.none _
      | refine LeO.ite ?_ ?_
      | refine LeO.bind ?_ (fun _ => ?_)
def turndownref08_Right.T8 : Bool × List (List Nat × List Nat) := (true, [([], []), ([], []), ([1], [1]), ([0, 2], [0, 2]), ([], []), ([], []), ([], []), ([6], [6]), ([4, 5, 7, 3], [4, 5, 7]), ([3, 8], [3, 8]), ([9, 8, 0, 1, 2, 3, 4, 5, 6, 7, 8, 9], [9])])
def turndownref08_Right.B8 : List Nat := [0, 0, 2, 7, 0, 0, 0, 64, 255, 511, 1023]
theorem turndownref08_Right.tab8 : rtab .any (opsOf Try.f33 8) = turndownref08_Right.T8 := by kernel_rfl
theorem turndownref08_Right.bits8 : waitsOk turndownref08_Right.T8.2 turndownref08_Right.B8 = true := by kernel_rfl
set_option maxHeartbeats 8000000 in
set_option maxRecDepth 100000 in
theorem turndownref08_Right.calls (k : Nat) (A0 : Option Addr) (c0 : Nat) (l0 : List (S47)) (A1 : Option Addr) (c1 : Nat) (l1 : List Int) (A2_0 : Option Addr) (c2_0 : Nat) (l2_0 : List Int) (A2_1 : Option Addr) (c2_1 : Nat) (l2_1 : List Int) (r : Bool) (w : World) (hr0 : Kd.C k47 w A0 l0.length l0) (hc0 : l0.length ≤ c0) (hr1 : Kd.C (Kd.int .i64) w A1 l1.length l1) (hc1 : l1.length ≤ c1) (hr2_0 : Kd.C (Kd.int .i64) w A2_0 l2_0.length l2_0) (hc2_0 : l2_0.length ≤ c2_0) (hr2_1 : Kd.C (Kd.int .i64) w A2_1 l2_1.length l2_1) (hc2_1 : l2_1.length ≤ c2_1) (h : turndownref08_Right.f k l0 l1 l2_0 l2_1 = some r) :
    Calls Try.prog 33 #[.slice A0 l0.length c0, .slice A1 l1.length c1, .agg #[.slice A2_0 l2_0.length c2_0, .slice A2_1 l2_1.length c2_1]] w fun e w' => e = .returned (.bool r) ∧ Below w.heap.size w w' := by
  have hu39 := Try.underlying39
  have HR0 := Aside0.mk hr0
  have HC0 := Aside0.mk hc0
  clear hr0 hc0
  have HR1 := Aside0.mk hr1
  have HC1 := Aside0.mk hc1
  clear hr1 hc1
  have HR2_0 := Aside0.mk hr2_0
  have HC2_0 := Aside0.mk hc2_0
  clear hr2_0 hc2_0
  have HR2_1 := Aside0.mk hr2_1
  have HC2_1 := Aside0.mk hc2_1
  clear hr2_1 hc2_1
  have HB := Aside0.mk (Below.refl w.heap.size w)
  have H : ((turndownref08_Fits.f k l0 l1 l2_0).bind fun t313 => (if t313 = true then (turndownref08_Right.j0 k l0 l1 ((l2_1.length : Int) != (l1.length : Int)) l2_0 l2_1) else (turndownref08_Right.j0 k l0 l1 true l2_0 l2_1))) = some r := h
  clear h
  have HC4 := Aside0.mk H
  clear H
  go_enter Try.func33, Try.ntmps33
  go_upto_region 1 with (first | ((with_reducible refine gate_dst (N := 5) rfl ?_); (try (refine gate_guard (by rfl) ?_; dsimp only)); refine box_event ?hg (N := 5) ?hd (cs := #[.slice A2_0 l2_0.length c2_0, .slice A2_1 l2_1.length c2_1]) (t := 39) ?hr ?_; (case hd => rfl); (case hg => rfl); (case hr => first | (go_simp; done) | (go_simp; rfl)); intro gb312 hg w5 hbox hb; have n0_ := Aside0.mk (below_step (by repeat (first | (with_reducible first | exact HB.out | apply below_alloc | apply pw_below_drewN | apply below_drew1) | exact HB.out)) hb); have n1_ := Aside0.mk (hbox); have n2_ := Aside0.mk ((by rw [hg]; exact (below_size (by repeat (first | (with_reducible first | exact HB.out | apply below_alloc | apply pw_below_drewN | apply below_drew1) | exact HB.out))) : w.heap.size ≤ gb312)); have n3_ := Aside0.mk ((by rw [hg]; exact (below_size (by repeat (first | (with_reducible first | exact HB.out | apply below_alloc | apply pw_below_drewN | apply below_drew1) | exact HB.out))) : w.heap.size ≤ gb312)); clear HB; have HB := n0_; have BK312 := n1_; have GW312 := n2_; have GE312 := n3_; clear n0_ n1_ n2_ n3_; clear hb hbox hg))
  (try simp only [Act.put, List.setIfInBounds_toArray, List.set_cons_zero, List.set_cons_succ])
  go_cut [21] (fun v21 wc => ∃ (kq : Nat) (x21_3 : Bool), v21 = .bool x21_3 ∧ Aside0 (turndownref08_Right.j0 kq l0 l1 x21_3 l2_0 l2_1 = some r) ∧ Aside0 (kq ≤ k) ∧ Aside0 (wc.heap[gb312]? = some (.cells #[(.slice A2_0 l2_0.length c2_0), (.slice A2_1 l2_1.length c2_1)] 39 (0, 0))) ∧ Aside0 (Below w.heap.size w wc))
  case first =>
    have H := HC4.out
    clear HC4
    replace H := Option.bind_eq_some_iff.mp H
    obtain ⟨t313, A60, H⟩ := H
    replace H : (if t313 = true then (turndownref08_Right.j0 k l0 l1 ((l2_1.length : Int) != (l1.length : Int)) l2_0 l2_1) else (turndownref08_Right.j0 k l0 l1 true l2_0 l2_1)) = some r := H
    have A6 := Aside0.mk A60
    clear A60
    by_cases c7 : t313 = true
    · subst c7
      have H1 : (turndownref08_Right.j0 k l0 l1 ((l2_1.length : Int) != (l1.length : Int)) l2_0 l2_1) = some r := by rw [if_pos rfl] at H; exact H
      clear H
      have H := H1
      clear H1
      have H' := Aside0.mk H
      clear H
      have hcz8_0 : w5.cell? ⟨gb312, 0, none⟩ = some (.slice A2_0 l2_0.length c2_0) := (blk_cell BK312.out 0).trans rfl
      have hcz8_1 : w5.cell? ⟨gb312, 1, none⟩ = some (.slice A2_1 l2_1.length c2_1) := (blk_cell BK312.out 1).trans rfl
      have hfz8_0 := blk_frozen BK312.out 0
      have hfz8_1 := blk_frozen BK312.out 1
      go_wp2_with (first | ((with_reducible refine gate_callee (f := 27) rfl ?_); refine goesL_ (some 12) rfl rfl Try.func27 (by kernel_rfl) rfl #[.slice A0 l0.length c0, .slice A1 l1.length c1, .slice A2_0 l2_0.length c2_0] rfl (by (try simp only [List.map_toArray, List.map_cons, List.map_nil]); first | done | rfl | (simp only [List.length_drop, List.length_take]; rfl)) ?_; (with_reducible refine (turndownref08_Fits.calls k _ _ l0 _ _ l1 _ _ l2_0 true _ ?side1 ?side2 ?side3 ?side4 ?side5 ?side6 A6.out).mono ?_); (case side1 => repeat (first | exact (Kd.C_below HR0.out HB.out) | (with_reducible refine Kd.C_alloc ?_ _) | (with_reducible refine Kd.C_drewN ?_ _) | (with_reducible refine Kd.C_drew ?_))); (case side2 => exact HC0.out); (case side3 => repeat (first | exact (Kd.C_below HR1.out HB.out) | (with_reducible refine Kd.C_alloc ?_ _) | (with_reducible refine Kd.C_drewN ?_ _) | (with_reducible refine Kd.C_drew ?_))); (case side4 => exact HC1.out); (case side5 => repeat (first | exact (Kd.C_below HR2_0.out HB.out) | (with_reducible refine Kd.C_alloc ?_ _) | (with_reducible refine Kd.C_drewN ?_ _) | (with_reducible refine Kd.C_drew ?_))); (case side6 => exact HC2_0.out); rintro e w9 ⟨rfl, hb⟩; refine ⟨_, rfl, ?_⟩; have n0_ := Aside0.mk (blk_below (g := gb312) (o := .cells #[.slice A2_0 l2_0.length c2_0, .slice A2_1 l2_1.length c2_1] 39 (0, 0)) (by (with_reducible repeat (first | refine blk_drewN ?_ _ | refine blk_drew ?_ | refine blk_alloc ?_ _)); exact BK312.out) hb); have n1_ := Aside0.mk (below_step (by repeat (first | (with_reducible first | exact HB.out | apply below_alloc | apply pw_below_drewN | apply below_drew1 | refine below_set ?_ GE312.out) | exact HB.out)) hb); clear BK312; clear HB; have BK312 := n0_; have HB := n1_; clear n0_ n1_; (try clear hb); (try clear hb2); (try clear hk); (try clear hi); have hcz10_0 : w9.cell? ⟨gb312, 0, none⟩ = some (.slice A2_0 l2_0.length c2_0) := (blk_cell BK312.out 0).trans rfl; have hcz10_1 : w9.cell? ⟨gb312, 1, none⟩ = some (.slice A2_1 l2_1.length c2_1) := (blk_cell BK312.out 1).trans rfl; have hfz10_0 := blk_frozen BK312.out 0; have hfz10_1 := blk_frozen BK312.out 1))
      go_meet
      case rel => exact ⟨_, (((l2_1.length : Int) != (l1.length : Int))), (by first | rfl | (simp; done) | (simp [*]; done)), H', ⟨by first | omega | exact Nat.le_refl _⟩, ⟨by (with_reducible repeat (first | refine blk_drewN ?_ _ | refine blk_drew ?_ | refine blk_alloc ?_ _)); exact BK312.out⟩, ⟨by repeat (first | (with_reducible first | exact HB.out | apply below_alloc | apply pw_below_drewN | apply below_drew1 | refine below_set ?_ GE312.out) | exact HB.out)⟩⟩
    · replace c7 := Bool.eq_false_iff.mpr c7
      subst c7
      have H1 : (turndownref08_Right.j0 k l0 l1 true l2_0 l2_1) = some r := by rw [if_neg (show ¬ (false = true) by decide)] at H; exact H
      clear H
      have H := H1
      clear H1
      have H' := Aside0.mk H
      clear H
      have hcz11_0 : w5.cell? ⟨gb312, 0, none⟩ = some (.slice A2_0 l2_0.length c2_0) := (blk_cell BK312.out 0).trans rfl
      have hcz11_1 : w5.cell? ⟨gb312, 1, none⟩ = some (.slice A2_1 l2_1.length c2_1) := (blk_cell BK312.out 1).trans rfl
      have hfz11_0 := blk_frozen BK312.out 0
      have hfz11_1 := blk_frozen BK312.out 1
      go_wp2_with (first | ((with_reducible refine gate_callee (f := 27) rfl ?_); refine goesL_ (some 12) rfl rfl Try.func27 (by kernel_rfl) rfl #[.slice A0 l0.length c0, .slice A1 l1.length c1, .slice A2_0 l2_0.length c2_0] rfl (by (try simp only [List.map_toArray, List.map_cons, List.map_nil]); first | done | rfl | (simp only [List.length_drop, List.length_take]; rfl)) ?_; (with_reducible refine (turndownref08_Fits.calls k _ _ l0 _ _ l1 _ _ l2_0 false _ ?side1 ?side2 ?side3 ?side4 ?side5 ?side6 A6.out).mono ?_); (case side1 => repeat (first | exact (Kd.C_below HR0.out HB.out) | (with_reducible refine Kd.C_alloc ?_ _) | (with_reducible refine Kd.C_drewN ?_ _) | (with_reducible refine Kd.C_drew ?_))); (case side2 => exact HC0.out); (case side3 => repeat (first | exact (Kd.C_below HR1.out HB.out) | (with_reducible refine Kd.C_alloc ?_ _) | (with_reducible refine Kd.C_drewN ?_ _) | (with_reducible refine Kd.C_drew ?_))); (case side4 => exact HC1.out); (case side5 => repeat (first | exact (Kd.C_below HR2_0.out HB.out) | (with_reducible refine Kd.C_alloc ?_ _) | (with_reducible refine Kd.C_drewN ?_ _) | (with_reducible refine Kd.C_drew ?_))); (case side6 => exact HC2_0.out); rintro e w12 ⟨rfl, hb⟩; refine ⟨_, rfl, ?_⟩; have n0_ := Aside0.mk (blk_below (g := gb312) (o := .cells #[.slice A2_0 l2_0.length c2_0, .slice A2_1 l2_1.length c2_1] 39 (0, 0)) (by (with_reducible repeat (first | refine blk_drewN ?_ _ | refine blk_drew ?_ | refine blk_alloc ?_ _)); exact BK312.out) hb); have n1_ := Aside0.mk (below_step (by repeat (first | (with_reducible first | exact HB.out | apply below_alloc | apply pw_below_drewN | apply below_drew1 | refine below_set ?_ GE312.out) | exact HB.out)) hb); clear BK312; clear HB; have BK312 := n0_; have HB := n1_; clear n0_ n1_; (try clear hb); (try clear hb2); (try clear hk); (try clear hi)))
      go_meet
      case rel => exact ⟨_, (true), (by first | rfl | (simp; done) | (simp [*]; done)), H', ⟨by first | omega | exact Nat.le_refl _⟩, ⟨by (with_reducible repeat (first | refine blk_drewN ?_ _ | refine blk_drew ?_ | refine blk_alloc ?_ _)); exact BK312.out⟩, ⟨by repeat (first | (with_reducible first | exact HB.out | apply below_alloc | apply pw_below_drewN | apply below_drew1 | refine below_set ?_ GE312.out) | exact HB.out)⟩⟩
  case rest =>
    clear HC4
    try clear c1
    try clear c2
    try clear p2
    try clear c3
    try clear c7
    try clear hcz10_0
    try clear hcz10_1
    try clear hcz11_0
    try clear hcz11_1
    try clear hcz8_0
    try clear hcz8_1
    try clear hfz10_0
    try clear hfz10_1
    try clear hfz11_0
    try clear hfz11_1
    try clear hfz8_0
    try clear hfz8_1
    obtain ⟨kq, x21_3, rfl, HA, HJ3, BK312, HB⟩ := hcut
    cases kq with
    | zero => exact absurd HA.out (by simp [turndownref08_Right.j0])
    | succ kj3 =>
      have H := HA.out
      clear HA
      simp only [turndownref08_Right.j0] at H
      by_cases c13 : x21_3 = true
      · subst c13
        have H1 : (some false) = some r := by rw [if_pos rfl] at H; exact H
        clear H
        have H := H1
        clear H1
        obtain rfl := Option.some.inj H
        go_wp2
        go_ret
        exact ⟨by first | rfl | (simp [errW_none, errW_some] <;> rfl) | (simp [*, errW_none, errW_some] <;> rfl), by repeat (first | (with_reducible first | exact HB.out | apply below_alloc | apply pw_below_drewN | apply below_drew1 | refine below_set ?_ GE312.out) | exact HB.out)⟩
      · replace c13 := Bool.eq_false_iff.mpr c13
        subst c13
        have H1 : (turndownref08_Right.l0 kj3 l0 l1 0 l2_0 l2_1) = some r := by rw [if_neg (show ¬ (false = true) by decide)] at H; exact H
        clear H
        have H := H1
        clear H1
        have H' := Aside0.mk H
        clear H
        go_wp2
        go_loopg [7] kj3 (fun kq v7 w' => ∃ (x7_2 : Int), v7 = .int .i64 x7_2 ∧ Aside0 (turndownref08_Right.l0 kq l0 l1 x7_2 l2_0 l2_1 = some r) ∧ Aside0 (kq ≤ kj3) ∧ Aside0 (w'.heap[gb312]? = some (.cells #[(.slice A2_0 l2_0.length c2_0), (.slice A2_1 l2_1.length c2_1)] 39 (0, 0))) ∧ Aside0 (Below w.heap.size w w'))
        case atStart => exact ⟨(0), (by first | rfl | (simp; done) | (simp [*]; done)), H', ⟨Nat.le_refl _⟩, ⟨by (with_reducible repeat (first | refine blk_drewN ?_ _ | refine blk_drew ?_ | refine blk_alloc ?_ _)); exact BK312.out⟩, ⟨by repeat (first | (with_reducible first | exact HB.out | apply below_alloc | apply pw_below_drewN | apply below_drew1 | refine below_set ?_ GE312.out) | exact HB.out)⟩⟩
        case round =>
          clear H'
          try clear c1
          try clear c2
          try clear p2
          try clear c3
          try clear c7
          try clear c13
          try clear hcz10_0
          try clear hcz10_1
          try clear hcz11_0
          try clear hcz11_1
          try clear hcz8_0
          try clear hcz8_1
          try clear hfz10_0
          try clear hfz10_1
          try clear hfz11_0
          try clear hfz11_1
          try clear hfz8_0
          try clear hfz8_1
          try clear p2
          obtain ⟨x7_2, rfl, HA, HK2, BK312, HB⟩ := hrel
          cases gk with
          | zero => exact absurd HA.out (by simp [turndownref08_Right.l0])
          | succ k2 =>
            have H := HA.out
            clear HA
            simp only [turndownref08_Right.l0] at H
            by_cases c14 : x7_2 < (l2_1.length : Int)
            · rw [if_pos c14] at H
              have c14b0 : decide (x7_2 < (l2_1.length : Int)) = true := decide_eq_true c14
              clear c14
              by_cases c15 : 0 ≤ x7_2
              · rw [if_pos c15] at H
                have c15b0 : decide (0 ≤ x7_2) = true := decide_eq_true c15
                clear c15
                by_cases c16 : (rd l2_1 x7_2) < 0
                · rw [if_pos c16] at H
                  have c16b0 : decide ((rd l2_1 x7_2) < 0) = true := decide_eq_true c16
                  clear c16
                  obtain rfl := Option.some.inj H
                  have hcz17_0 : wr.cell? ⟨gb312, 0, none⟩ = some (.slice A2_0 l2_0.length c2_0) := (blk_cell BK312.out 0).trans rfl
                  have hcz17_1 : wr.cell? ⟨gb312, 1, none⟩ = some (.slice A2_1 l2_1.length c2_1) := (blk_cell BK312.out 1).trans rfl
                  have hfz17_0 := blk_frozen BK312.out 0
                  have hfz17_1 := blk_frozen BK312.out 1
                  have p314 : 0 ≤ (x7_2 : Int) := of_decide_eq_true (by first | (with_reducible assumption) | assumption)
                  have q314 : x7_2 < (l2_1.length : Int) := of_decide_eq_true (by first | (with_reducible assumption) | assumption)
                  obtain ⟨ad314, e314, hx314_0⟩ := Kd.at_int HR2_1.out x7_2 p314 q314
                  cases e314
                  replace hx314_0 := (HB.out.cell (World.block_lt_of_cell? w _ hx314_0)).trans hx314_0
                  replace p314 := eq_true p314
                  replace q314 := eq_true q314
                  go_wp2
                  go_ret
                  exact ⟨by first | rfl | (simp [errW_none, errW_some] <;> rfl) | (simp [*, errW_none, errW_some] <;> rfl), by repeat (first | (with_reducible first | exact HB.out | apply below_alloc | apply pw_below_drewN | apply below_drew1 | refine below_set ?_ GE312.out) | exact HB.out)⟩
                · rw [if_neg c16] at H
                  have c16b0 : decide ((rd l2_1 x7_2) < 0) = false := decide_eq_false c16
                  clear c16
                  by_cases c18 : (rd l2_1 x7_2) > 1099511627776
                  · rw [if_pos c18] at H
                    have c18b0 : decide (1099511627776 < (rd l2_1 x7_2)) = true := decide_eq_true c18
                    clear c18
                    obtain rfl := Option.some.inj H
                    have hcz19_0 : wr.cell? ⟨gb312, 0, none⟩ = some (.slice A2_0 l2_0.length c2_0) := (blk_cell BK312.out 0).trans rfl
                    have hcz19_1 : wr.cell? ⟨gb312, 1, none⟩ = some (.slice A2_1 l2_1.length c2_1) := (blk_cell BK312.out 1).trans rfl
                    have hfz19_0 := blk_frozen BK312.out 0
                    have hfz19_1 := blk_frozen BK312.out 1
                    have p314 : 0 ≤ (x7_2 : Int) := of_decide_eq_true (by first | (with_reducible assumption) | assumption)
                    have q314 : x7_2 < (l2_1.length : Int) := of_decide_eq_true (by first | (with_reducible assumption) | assumption)
                    obtain ⟨ad314, e314, hx314_0⟩ := Kd.at_int HR2_1.out x7_2 p314 q314
                    cases e314
                    replace hx314_0 := (HB.out.cell (World.block_lt_of_cell? w _ hx314_0)).trans hx314_0
                    replace p314 := eq_true p314
                    replace q314 := eq_true q314
                    have p315 : 0 ≤ (x7_2 : Int) := of_decide_eq_true (by first | (with_reducible assumption) | assumption)
                    have q315 : x7_2 < (l2_1.length : Int) := of_decide_eq_true (by first | (with_reducible assumption) | assumption)
                    obtain ⟨ad315, e315, hx315_0⟩ := Kd.at_int HR2_1.out x7_2 p315 q315
                    obtain rfl : ad314 = ad315 := (by injection e315)
                    replace hx315_0 := (HB.out.cell (World.block_lt_of_cell? w _ hx315_0)).trans hx315_0
                    replace p315 := eq_true p315
                    replace q315 := eq_true q315
                    go_wp2
                    go_ret
                    exact ⟨by first | rfl | (simp [errW_none, errW_some] <;> rfl) | (simp [*, errW_none, errW_some] <;> rfl), by repeat (first | (with_reducible first | exact HB.out | apply below_alloc | apply pw_below_drewN | apply below_drew1 | refine below_set ?_ GE312.out) | exact HB.out)⟩
                  · rw [if_neg c18] at H
                    have c18b0 : decide (1099511627776 < (rd l2_1 x7_2)) = false := decide_eq_false c18
                    clear c18
                    have H' := Aside0.mk H
                    clear H
                    have hcz20_0 : wr.cell? ⟨gb312, 0, none⟩ = some (.slice A2_0 l2_0.length c2_0) := (blk_cell BK312.out 0).trans rfl
                    have hcz20_1 : wr.cell? ⟨gb312, 1, none⟩ = some (.slice A2_1 l2_1.length c2_1) := (blk_cell BK312.out 1).trans rfl
                    have hfz20_0 := blk_frozen BK312.out 0
                    have hfz20_1 := blk_frozen BK312.out 1
                    have p314 : 0 ≤ (x7_2 : Int) := of_decide_eq_true (by first | (with_reducible assumption) | assumption)
                    have q314 : x7_2 < (l2_1.length : Int) := of_decide_eq_true (by first | (with_reducible assumption) | assumption)
                    obtain ⟨ad314, e314, hx314_0⟩ := Kd.at_int HR2_1.out x7_2 p314 q314
                    cases e314
                    replace hx314_0 := (HB.out.cell (World.block_lt_of_cell? w _ hx314_0)).trans hx314_0
                    replace p314 := eq_true p314
                    replace q314 := eq_true q314
                    have p315 : 0 ≤ (x7_2 : Int) := of_decide_eq_true (by first | (with_reducible assumption) | assumption)
                    have q315 : x7_2 < (l2_1.length : Int) := of_decide_eq_true (by first | (with_reducible assumption) | assumption)
                    obtain ⟨ad315, e315, hx315_0⟩ := Kd.at_int HR2_1.out x7_2 p315 q315
                    obtain rfl : ad314 = ad315 := (by injection e315)
                    replace hx315_0 := (HB.out.cell (World.block_lt_of_cell? w _ hx315_0)).trans hx315_0
                    replace p315 := eq_true p315
                    replace q315 := eq_true q315
                    go_wp2
                    go_roundg k2
                    case measure => have := HJ3.out; have := HK2.out; omega
                    case rel => exact ⟨(wrap64 (x7_2 + 1)), (by first | rfl | (simp; done) | (simp [*]; done)), H', ⟨by have := HJ3.out; have := HK2.out; omega⟩, ⟨by (with_reducible repeat (first | refine blk_drewN ?_ _ | refine blk_drew ?_ | refine blk_alloc ?_ _)); exact BK312.out⟩, ⟨by repeat (first | (with_reducible first | exact HB.out | apply below_alloc | apply pw_below_drewN | apply below_drew1 | refine below_set ?_ GE312.out) | exact HB.out)⟩⟩
              · rw [if_neg c15] at H
                exact absurd H (by simp)
            · rw [if_neg c14] at H
              have c14b0 : decide (x7_2 < (l2_1.length : Int)) = false := decide_eq_false c14
              clear c14
              replace H := Option.bind_eq_some_iff.mp H
              obtain ⟨t316, A210, H⟩ := H
              replace H : ((turndownref08_Bound.f k2 l0 l1 l2_1).bind fun t317 => (some (t316 == t317))) = some r := H
              have A21 := Aside0.mk A210
              clear A210
              replace H := Option.bind_eq_some_iff.mp H
              obtain ⟨t317, A220, H⟩ := H
              replace H : (some (t316 == t317)) = some r := H
              have A22 := Aside0.mk A220
              clear A220
              obtain rfl := Option.some.inj H
              have hcz23_0 : wr.cell? ⟨gb312, 0, none⟩ = some (.slice A2_0 l2_0.length c2_0) := (blk_cell BK312.out 0).trans rfl
              have hcz23_1 : wr.cell? ⟨gb312, 1, none⟩ = some (.slice A2_1 l2_1.length c2_1) := (blk_cell BK312.out 1).trans rfl
              have hfz23_0 := blk_frozen BK312.out 0
              have hfz23_1 := blk_frozen BK312.out 1
              try go_wp2
              have n0_ := Aside0.mk (blk_drew BK312.out)
              have n1_ := Aside0.mk (below_drew1 HB.out)
              clear BK312
              clear HB
              have BK312 := n0_
              have HB := n1_
              clear n0_ n1_
              refine start_ (n := 11) (S := fun w' => w'.cell? ⟨gb312, 0, none⟩ = some (.slice A2_0 l2_0.length c2_0) ∧ w'.cell? ⟨gb312, 1, none⟩ = some (.slice A2_1 l2_1.length c2_1)) (ds := []) #[false, false, false, false, false, false, false, false, false, false, false] (by kernel_rfl) rfl rfl ⟨(blk_cell BK312.out 0).trans rfl, (blk_cell BK312.out 1).trans rfl⟩ (fun hHeld => ?_); refine with_tabW turndownref08_Right.tab8 turndownref08_Right.bits8 (fun HT_ HW_ => ?_)
              generalize wr.drew = w24 at BK312 HB hHeld ⊢
              refine pure_ (i := 0) (N := some 43) (v := ?_) (a' := ?_) #[true, false, false, false, false, false, false, false, false, false, false] rfl rfl (any_of HT_.out (by kernel_rfl)) (fun _ _ _ h => h) (Or.inl ⟨by rfl, ?_⟩) ?_ ?_
              rotate_left
              · intro w'
                go_simp
                with_reducible rfl
              rotate_left
              · simp only [Act.put, List.setIfInBounds_toArray, List.set_cons_zero, List.set_cons_succ, i64_w, i32_w]
                rfl
              refine pure_ (i := 1) (N := some 44) (v := ?_) (a' := ?_) #[true, true, false, false, false, false, false, false, false, false, false] rfl rfl (any_of HT_.out (by kernel_rfl)) (fun _ _ _ h => h) (Or.inl ⟨by rfl, ?_⟩) ?_ ?_
              rotate_left
              · intro w'
                go_simp
                with_reducible rfl
              rotate_left
              · simp only [Act.put, List.setIfInBounds_toArray, List.set_cons_zero, List.set_cons_succ, i64_w, i32_w]
                rfl
              refine pure_ (i := 4) (N := some 47) (v := ?_) (a' := ?_) #[true, true, false, false, true, false, false, false, false, false, false] rfl rfl (any_of HT_.out (by kernel_rfl)) (fun _ _ _ h => h) (Or.inl ⟨by rfl, ?_⟩) ?_ ?_
              rotate_left
              · intro w'
                go_simp
                with_reducible rfl
              rotate_left
              · simp only [Act.put, List.setIfInBounds_toArray, List.set_cons_zero, List.set_cons_succ, i64_w, i32_w]
                rfl
              refine pure_ (i := 5) (N := some 48) (v := ?_) (a' := ?_) #[true, true, false, false, true, true, false, false, false, false, false] rfl rfl (any_of HT_.out (by kernel_rfl)) (fun _ _ _ h => h) (Or.inl ⟨by rfl, ?_⟩) ?_ ?_
              rotate_left
              · intro w'
                go_simp
                with_reducible rfl
              rotate_left
              · simp only [Act.put, List.setIfInBounds_toArray, List.set_cons_zero, List.set_cons_succ, i64_w, i32_w]
                rfl
              refine pure_ (i := 6) (N := some 49) (v := ?_) (a' := ?_) #[true, true, false, false, true, true, true, false, false, false, false] rfl rfl (any_of HT_.out (by kernel_rfl)) (fun _ _ _ h => h) (Or.inl ⟨by rfl, ?_⟩) ?_ ?_
              rotate_left
              · intro w'
                go_simp
                with_reducible rfl
              rotate_left
              · simp only [Act.put, List.setIfInBounds_toArray, List.set_cons_zero, List.set_cons_succ, i64_w, i32_w]
                rfl
              refine take_ (i := 2) (N := some 45) (v := ?_) (a' := ?_) #[true, true, true, false, true, true, true, false, false, false, false] rfl rfl (take_ofW HT_.out HW_.out (by kernel_rfl)) (fun _ _ _ h => h) (Or.inl ⟨by rfl, ?_⟩) hHeld ?_ ?_
              rotate_left
              · rintro w' ⟨s0, s1⟩
                go_simp
                with_reducible rfl
              rotate_left
              · simp only [Act.put, List.setIfInBounds_toArray, List.set_cons_zero, List.set_cons_succ, i64_w, i32_w]
                rfl
              refine take_ (i := 7) (N := some 50) (v := ?_) (a' := ?_) #[true, true, true, false, true, true, true, true, false, false, false] rfl rfl (take_ofW HT_.out HW_.out (by kernel_rfl)) (fun _ _ _ h => h) (Or.inl ⟨by rfl, ?_⟩) hHeld ?_ ?_
              rotate_left
              · rintro w' ⟨s0, s1⟩
                go_simp
                with_reducible rfl
              rotate_left
              · simp only [Act.put, List.setIfInBounds_toArray, List.set_cons_zero, List.set_cons_succ, i64_w, i32_w]
                rfl
              refine one_ (i := 3) (N := some 46) #[true, true, true, true, true, true, true, true, false, false, false] rfl rfl (one_of HT_.out (by kernel_rfl)) (by decide) (fun K hK => ?_)
              refine goes_ Try.func28 (by kernel_rfl) rfl #[.slice A0 l0.length c0, .slice A2_0 l2_0.length c2_0] (by rfl) rfl rfl (by (try simp only [List.map_toArray, List.map_cons, List.map_nil]); first | done | rfl | (simp only [List.length_drop, List.length_take]; rfl)) ?_
              with_reducible refine (turndownref08_Revenue.calls k2 _ _ l0 _ _ l2_0 t316 _ ?side1 ?side2 ?side3 ?side4 A21.out).mono ?_
              (case side1 => repeat (first | exact (Kd.C_below HR0.out HB.out) | (with_reducible refine Kd.C_alloc ?_ _) | (with_reducible refine Kd.C_drewN ?_ _) | (with_reducible refine Kd.C_drew ?_)))
              (case side2 => exact HC0.out)
              (case side3 => repeat (first | exact (Kd.C_below HR2_0.out HB.out) | (with_reducible refine Kd.C_alloc ?_ _) | (with_reducible refine Kd.C_drewN ?_ _) | (with_reducible refine Kd.C_drew ?_)))
              (case side4 => exact HC2_0.out)
              rintro e w' ⟨rfl, ⟨nd, rfl⟩⟩
              refine ⟨_, rfl, ?_⟩
              refine hK.out _ _ ⟨(blk_cell BK312.out 0).trans rfl, (blk_cell BK312.out 1).trans rfl⟩ (fun hHeld => ?_)
              clear hK K
              refine norm_ (a' := ?_) ?_ ?_
              rotate_left
              · show Act.put _ (some 46) _ = _
                simp only [Act.put, List.setIfInBounds_toArray, List.set_cons_zero, List.set_cons_succ, i64_w, i32_w]
                rfl
              refine one_ (i := 8) (N := some 51) #[true, true, true, true, true, true, true, true, true, false, false] rfl rfl (one_of HT_.out (by kernel_rfl)) (by decide) (fun K hK => ?_)
              refine goes_ Try.func29 (by kernel_rfl) rfl #[.slice A0 l0.length c0, .slice A1 l1.length c1, .slice A2_1 l2_1.length c2_1] (by rfl) rfl rfl (by (try simp only [List.map_toArray, List.map_cons, List.map_nil]); first | done | rfl | (simp only [List.length_drop, List.length_take]; rfl)) ?_
              with_reducible refine (turndownref08_Bound.calls k2 _ _ l0 _ _ l1 _ _ l2_1 t317 _ ?side1 ?side2 ?side3 ?side4 ?side5 ?side6 A22.out).mono ?_
              (case side1 => repeat (first | exact (Kd.C_below HR0.out (by repeat (first | (with_reducible first | exact HB.out | apply below_alloc | apply pw_below_drewN | apply below_drew1 | refine below_set ?_ GE312.out) | exact HB.out))) | (with_reducible refine Kd.C_alloc ?_ _) | (with_reducible refine Kd.C_drewN ?_ _) | (with_reducible refine Kd.C_drew ?_)))
              (case side2 => exact HC0.out)
              (case side3 => repeat (first | exact (Kd.C_below HR1.out (by repeat (first | (with_reducible first | exact HB.out | apply below_alloc | apply pw_below_drewN | apply below_drew1 | refine below_set ?_ GE312.out) | exact HB.out))) | (with_reducible refine Kd.C_alloc ?_ _) | (with_reducible refine Kd.C_drewN ?_ _) | (with_reducible refine Kd.C_drew ?_)))
              (case side4 => exact HC1.out)
              (case side5 => repeat (first | exact (Kd.C_below HR2_1.out (by repeat (first | (with_reducible first | exact HB.out | apply below_alloc | apply pw_below_drewN | apply below_drew1 | refine below_set ?_ GE312.out) | exact HB.out))) | (with_reducible refine Kd.C_alloc ?_ _) | (with_reducible refine Kd.C_drewN ?_ _) | (with_reducible refine Kd.C_drew ?_)))
              (case side6 => exact HC2_1.out)
              rintro e w25 ⟨rfl, hb⟩
              refine ⟨_, rfl, ?_⟩
              have n0_ := Aside0.mk (blk_below (g := gb312) (o := .cells #[.slice A2_0 l2_0.length c2_0, .slice A2_1 l2_1.length c2_1] 39 (0, 0)) (by (with_reducible repeat (first | refine blk_drewN ?_ _ | refine blk_drew ?_ | refine blk_alloc ?_ _)); exact BK312.out) hb)
              have n1_ := Aside0.mk (below_step (by repeat (first | (with_reducible first | exact HB.out | apply below_alloc | apply pw_below_drewN | apply below_drew1 | refine below_set ?_ GE312.out) | exact HB.out)) hb)
              clear BK312
              clear HB
              have BK312 := n0_
              have HB := n1_
              clear n0_ n1_
              (try clear hb)
              (try clear hb2)
              (try clear hk)
              (try clear hi)
              refine hK.out _ _ ⟨(blk_cell BK312.out 0).trans rfl, (blk_cell BK312.out 1).trans rfl⟩ (fun hHeld => ?_)
              clear hK K
              refine norm_ (a' := ?_) ?_ ?_
              rotate_left
              · show Act.put _ (some 51) _ = _
                simp only [Act.put, List.setIfInBounds_toArray, List.set_cons_zero, List.set_cons_succ, i64_w, i32_w]
                rfl
              refine pure_ (i := 9) (N := some 52) (v := ?_) (a' := ?_) #[true, true, true, true, true, true, true, true, true, true, false] rfl rfl (any_of HT_.out (by kernel_rfl)) (fun _ _ _ h => h) (Or.inl ⟨by rfl, ?_⟩) ?_ ?_
              rotate_left
              · intro w'
                go_simp
                with_reducible rfl
              rotate_left
              · simp only [Act.put, List.setIfInBounds_toArray, List.set_cons_zero, List.set_cons_succ, i64_w, i32_w]
                rfl
              refine pure_ (i := 10) (N := some 6) (v := ?_) (a' := ?_) #[true, true, true, true, true, true, true, true, true, true, true] rfl rfl (any_of HT_.out (by kernel_rfl)) (fun _ _ _ h => h) (Or.inl ⟨by rfl, ?_⟩) ?_ ?_
              rotate_left
              · intro w'
                go_simp
                with_reducible rfl
              rotate_left
              · simp only [Act.put, List.setIfInBounds_toArray, List.set_cons_zero, List.set_cons_succ, i64_w, i32_w]
                rfl
              refine done_ (done_of HT_.out (by kernel_rfl)) ?_
              try go_wp2
              go_ret
              exact ⟨by first | rfl | (simp [errW_none, errW_some] <;> rfl) | (simp [*, errW_none, errW_some] <;> rfl), by repeat (first | (with_reducible first | exact HB.out | apply below_alloc | apply pw_below_drewN | apply below_drew1 | refine below_set ?_ GE312.out) | exact HB.out)⟩
end Go.Proofs.Ytpjobcnfjpbaeaa.PA

namespace Go.Proofs.Ytpjobcnfjpbaeaa.M
open Go.RowKit Go.Proofs.YtpjobcnfjpbaeaaW.PrintWords Go.Proofs.YtpjobcnfjpbaeaaW.PrintLast Go.Proofs.YtpjobcnfjpbaeaaW.PrintMore
open Go.Proofs.Ytpjobcnfjpbaeaa.PA Go.Proofs.Ytpjobcnfjpbaeaa.A
open Classical in
theorem right_l0 {l : List S47} {rooms tk pr : List Int} (hg : A.Good l rooms) (hlen : pr.length = rooms.length) (ha : Asc l.length tk) (hfit : (inst l rooms).Fit (ind tk)) : ∀ d i, i + d = pr.length → (∀ j, j < i → 0 ≤ pr.getD j 0 ∧ pr.getD j 0 ≤ 1099511627776) →
    Ev (fun k => turndownref08_Right.l0 k l rooms (i : Int) tk pr) (decide (RightP l rooms tk pr)) := by
  have hn := hg.nights
  intro d
  induction d with
  | zero =>
    intro i hi hp
    obtain rfl : i = pr.length := by omega
    have hrng : ∀ j, j < rooms.length → 0 ≤ pr.getD j 0 ∧ pr.getD j 0 ≤ 1099511627776 := fun j hj => hp j (by omega)
    refine Ev.step (f := fun k => (turndownref08_Revenue.f k l tk).bind fun t => (turndownref08_Bound.f k l rooms pr).bind fun u => some (t == u)) (fun k => ?_) (Ev.bind (refRev_ev hg ha) (Ev.bind (bound_ev hg hlen hrng) (Ev.congr (fun k => ?_) (Ev.now _))))
    · rw [turndownref08_Right.l0, if_neg (by omega)]
    · congr 1
      rw [Bool.eq_iff_iff]
      simp only [beq_iff_eq, decide_eq_true_eq]
      exact ⟨fun h => ⟨ha, hfit, hlen, hrng, h⟩, fun h => h.eq⟩
  | succ d ih =>
    intro i hi hp
    have hil : i < pr.length := by omega
    by_cases h1 : pr.getD i 0 < 0
    · rw [decide_eq_false (fun h => by have := h.rng i (by omega); omega)]
      refine Ev.step (f := fun _ => some false) (fun k => ?_) (Ev.now _)
      rw [turndownref08_Right.l0, if_pos (by omega), if_pos (by omega), rdI, if_pos h1]
    by_cases h2 : pr.getD i 0 > 1099511627776
    · rw [decide_eq_false (fun h => by have := h.rng i (by omega); omega)]
      refine Ev.step (f := fun _ => some false) (fun k => ?_) (Ev.now _)
      rw [turndownref08_Right.l0, if_pos (by omega), if_pos (by omega), rdI, if_neg h1, if_pos h2]
    refine Ev.step (fun k => ?_) (ih (i + 1) (by omega) (fun j hj => by
      by_cases e : j = i
      · subst e; omega
      · exact hp j (by omega)))
    rw [turndownref08_Right.l0, if_pos (by omega), if_pos (by omega), rdI, if_neg h1, if_neg h2, wrap_succ hil (by omega)]
open Classical in
theorem refRight_ev {l : List S47} {rooms tk pr : List Int} (hg : A.Good l rooms) (htk : tk.length ≤ 1000) : Ev (fun k => turndownref08_Right.f k l rooms tk pr) (decide (RightP l rooms tk pr)) := by
  refine Ev.bind (fits_ev hg htk) ?_
  by_cases hF : FitsP l rooms tk
  · simp only [decide_eq_true hF, if_true]
    by_cases hlen : pr.length = rooms.length
    · have e : ((pr.length : Int) != (rooms.length : Int)) = false := by simp [hlen]
      rw [e]
      refine Ev.step (fun k => ?_) (right_l0 hg hlen hF.asc hF.fit pr.length 0 (by omega) (fun j hj => by omega))
      rw [turndownref08_Right.j0, if_neg (by simp)]
      rfl
    · have e : ((pr.length : Int) != (rooms.length : Int)) = true := by simp; omega
      rw [e, decide_eq_false (fun h => hlen h.len)]
      refine Ev.step (f := fun _ => some false) (fun k => ?_) (Ev.now _)
      rw [turndownref08_Right.j0, if_pos rfl]
  · simp only [decide_eq_false hF, Bool.false_eq_true, if_false]
    rw [decide_eq_false (fun h => hF ⟨h.asc, h.fit⟩)]
    refine Ev.step (f := fun _ => some false) (fun k => ?_) (Ev.now _)
    rw [turndownref08_Right.j0, if_pos rfl]
open Classical in
theorem check_ev {l : List S47} {rooms tk pr : List Int} (hg : A.Good l rooms) (htk : tk.length ≤ 1000) : Ev (fun k => checkF k l rooms tk pr) (if RightP l rooms tk pr then 0 else 10) := by
  have hc : checkB l rooms = true := checkB_iff.2 hg
  unfold checkF
  simp only [hc, if_true]
  refine Ev.bind (right_ev hg htk) ?_
  by_cases h : RightP l rooms tk pr
  · rw [decide_eq_true h, if_pos h]; exact Ev.now _
  · rw [decide_eq_false h, if_neg h]; exact Ev.now _
theorem check_no {l : List S47} {rooms tk pr : List Int} (hg : ¬ A.Good l rooms) (k : Nat) : checkF k l rooms tk pr = some 2 := by
  have hc : checkB l rooms = false := by rw [← Bool.not_eq_true]; exact fun h => hg (checkB_iff.1 h)
  unfold checkF
  rw [hc]
  rfl
end Go.Proofs.Ytpjobcnfjpbaeaa.M

namespace Go.Proofs.Ytpjobcnfjpbaeaa.A
open Go.RowKit Go.Proofs.YtpjobcnfjpbaeaaW.PrintWords Go.Proofs.YtpjobcnfjpbaeaaW.PrintLast Go.Proofs.YtpjobcnfjpbaeaaW.PrintMore
open Go.Proofs.Ytpjobcnfjpbaeaa.PA Go.Proofs.Ytpjobcnfjpbaeaa.M
open Classical in
theorem refRight_c (A : Option Addr) (c : Nat) (l : List S47) (A1 : Option Addr) (c1 : Nat) (r : List Int) (A2 : Option Addr) (c2 : Nat) (tk : List Int) (A3 : Option Addr) (c3 : Nat) (pr : List Int) (w : World) (h : Kd.C k47 w A l.length l) (hc : l.length ≤ c) (h1 : Kd.C (Kd.int .i64) w A1 r.length r) (hc1 : r.length ≤ c1)
    (h2 : Kd.C (Kd.int .i64) w A2 tk.length tk) (hc2 : tk.length ≤ c2) (h3 : Kd.C (Kd.int .i64) w A3 pr.length pr) (hc3 : pr.length ≤ c3) (hg : Good l r) (htk : tk.length ≤ 1000) :
    Calls Try.prog 33 #[.slice A l.length c, .slice A1 r.length c1, .agg #[.slice A2 tk.length c2, .slice A3 pr.length c3]] w fun e w' => e = .returned (.bool (decide (RightP l r tk pr))) ∧ Below w.heap.size w w' := by
  obtain ⟨k, hk⟩ := (refRight_ev (pr := pr) hg htk).rounds
  exact turndownref08_Right.calls k A c l A1 c1 r A2 c2 tk A3 c3 pr _ w h hc h1 hc1 h2 hc2 h3 hc3 hk
open Classical in
theorem Check_yes (A : Option Addr) (c : Nat) (l : List S47) (A1 : Option Addr) (c1 : Nat) (r : List Int) (A2 : Option Addr) (c2 : Nat) (tk : List Int) (A3 : Option Addr) (c3 : Nat) (pr : List Int) (w : World) (h : Kd.C k47 w A l.length l) (hc : l.length ≤ c) (h1 : Kd.C (Kd.int .i64) w A1 r.length r) (hc1 : r.length ≤ c1)
    (h2 : Kd.C (Kd.int .i64) w A2 tk.length tk) (hc2 : tk.length ≤ c2) (h3 : Kd.C (Kd.int .i64) w A3 pr.length pr) (hc3 : pr.length ≤ c3) (hg : Good l r) (htk : tk.length ≤ 1000) :
    Calls Try.prog 38 #[.slice A l.length c, .slice A1 r.length c1, .agg #[.slice A2 tk.length c2, .slice A3 pr.length c3]] w fun e w' => e = .returned (.int .i64 (if RightP l r tk pr then 0 else 10)) ∧ Below w.heap.size w w' := by
  obtain ⟨k, hk⟩ := (check_ev (pr := pr) hg htk).rounds
  exact Check_c A c l A1 c1 r A2 c2 tk A3 c3 pr k _ w h hc h1 hc1 h2 hc2 h3 hc3 hk
theorem Check_bad (A : Option Addr) (c : Nat) (l : List S47) (A1 : Option Addr) (c1 : Nat) (r : List Int) (A2 : Option Addr) (c2 : Nat) (tk : List Int) (A3 : Option Addr) (c3 : Nat) (pr : List Int) (w : World) (h : Kd.C k47 w A l.length l) (hc : l.length ≤ c) (h1 : Kd.C (Kd.int .i64) w A1 r.length r) (hc1 : r.length ≤ c1)
    (h2 : Kd.C (Kd.int .i64) w A2 tk.length tk) (hc2 : tk.length ≤ c2) (h3 : Kd.C (Kd.int .i64) w A3 pr.length pr) (hc3 : pr.length ≤ c3) (hg : ¬ Good l r) :
    Calls Try.prog 38 #[.slice A l.length c, .slice A1 r.length c1, .agg #[.slice A2 tk.length c2, .slice A3 pr.length c3]] w fun e w' => e = .returned (.int .i64 2) ∧ Below w.heap.size w w' :=
  Check_c A c l A1 c1 r A2 c2 tk A3 c3 pr 0 _ w h hc h1 hc1 h2 hc2 h3 hc3 (check_no hg 0)
open Classical in
theorem refRight_t (A : Option Addr) (c : Nat) (l : List S47) (A1 : Option Addr) (c1 : Nat) (r : List Int) (A2 : Option Addr) (c2 : Nat) (tk : List Int) (A3 : Option Addr) (c3 : Nat) (pr : List Int) (w : World) (h : Kd.C k47 w A l.length l) (hc : l.length ≤ c) (h1 : Kd.C (Kd.int .i64) w A1 r.length r) (hc1 : r.length ≤ c1)
    (h2 : Kd.C (Kd.int .i64) w A2 tk.length tk) (hc2 : tk.length ≤ c2) (h3 : Kd.C (Kd.int .i64) w A3 pr.length pr) (hc3 : pr.length ≤ c3) (hg : Good l r) (htk : tk.length ≤ 1000) (hrp : RightP l r tk pr) :
    Calls Try.prog 33 #[.slice A l.length c, .slice A1 r.length c1, .agg #[.slice A2 tk.length c2, .slice A3 pr.length c3]] w fun e w' => e = .returned (.bool true) ∧ Below w.heap.size w w' := by
  have := refRight_c A c l A1 c1 r A2 c2 tk A3 c3 pr w h hc h1 hc1 h2 hc2 h3 hc3 hg htk
  rw [decide_eq_true hrp] at this
  exact this
open Classical in
theorem refRight_f (A : Option Addr) (c : Nat) (l : List S47) (A1 : Option Addr) (c1 : Nat) (r : List Int) (A2 : Option Addr) (c2 : Nat) (tk : List Int) (A3 : Option Addr) (c3 : Nat) (pr : List Int) (w : World) (h : Kd.C k47 w A l.length l) (hc : l.length ≤ c) (h1 : Kd.C (Kd.int .i64) w A1 r.length r) (hc1 : r.length ≤ c1)
    (h2 : Kd.C (Kd.int .i64) w A2 tk.length tk) (hc2 : tk.length ≤ c2) (h3 : Kd.C (Kd.int .i64) w A3 pr.length pr) (hc3 : pr.length ≤ c3) (hg : Good l r) (htk : tk.length ≤ 1000) (hrp : ¬ RightP l r tk pr) :
    Calls Try.prog 33 #[.slice A l.length c, .slice A1 r.length c1, .agg #[.slice A2 tk.length c2, .slice A3 pr.length c3]] w fun e w' => e = .returned (.bool false) ∧ Below w.heap.size w w' := by
  have := refRight_c A c l A1 c1 r A2 c2 tk A3 c3 pr w h hc h1 hc1 h2 hc2 h3 hc3 hg htk
  rw [decide_eq_false hrp] at this
  exact this
open Classical in
theorem Check_t (A : Option Addr) (c : Nat) (l : List S47) (A1 : Option Addr) (c1 : Nat) (r : List Int) (A2 : Option Addr) (c2 : Nat) (tk : List Int) (A3 : Option Addr) (c3 : Nat) (pr : List Int) (w : World) (h : Kd.C k47 w A l.length l) (hc : l.length ≤ c) (h1 : Kd.C (Kd.int .i64) w A1 r.length r) (hc1 : r.length ≤ c1)
    (h2 : Kd.C (Kd.int .i64) w A2 tk.length tk) (hc2 : tk.length ≤ c2) (h3 : Kd.C (Kd.int .i64) w A3 pr.length pr) (hc3 : pr.length ≤ c3) (hg : Good l r) (htk : tk.length ≤ 1000) (hrp : RightP l r tk pr) :
    Calls Try.prog 38 #[.slice A l.length c, .slice A1 r.length c1, .agg #[.slice A2 tk.length c2, .slice A3 pr.length c3]] w fun e w' => e = .returned (.int .i64 0) ∧ Below w.heap.size w w' := by
  have := Check_yes A c l A1 c1 r A2 c2 tk A3 c3 pr w h hc h1 hc1 h2 hc2 h3 hc3 hg htk
  rw [if_pos hrp] at this
  exact this
open Classical in
theorem Check_f (A : Option Addr) (c : Nat) (l : List S47) (A1 : Option Addr) (c1 : Nat) (r : List Int) (A2 : Option Addr) (c2 : Nat) (tk : List Int) (A3 : Option Addr) (c3 : Nat) (pr : List Int) (w : World) (h : Kd.C k47 w A l.length l) (hc : l.length ≤ c) (h1 : Kd.C (Kd.int .i64) w A1 r.length r) (hc1 : r.length ≤ c1)
    (h2 : Kd.C (Kd.int .i64) w A2 tk.length tk) (hc2 : tk.length ≤ c2) (h3 : Kd.C (Kd.int .i64) w A3 pr.length pr) (hc3 : pr.length ≤ c3) (hg : Good l r) (htk : tk.length ≤ 1000) (hrp : ¬ RightP l r tk pr) :
    Calls Try.prog 38 #[.slice A l.length c, .slice A1 r.length c1, .agg #[.slice A2 tk.length c2, .slice A3 pr.length c3]] w fun e w' => e = .returned (.int .i64 10) ∧ Below w.heap.size w w' := by
  have := Check_yes A c l A1 c1 r A2 c2 tk A3 c3 pr w h hc h1 hc1 h2 hc2 h3 hc3 hg htk
  rw [if_neg hrp] at this
  exact this
end Go.Proofs.Ytpjobcnfjpbaeaa.A

namespace Go.Proofs.Ytpjobcnfjpbaeaa.A
open Go.RowKit Go.Proofs.YtpjobcnfjpbaeaaW.PrintWords Go.Proofs.YtpjobcnfjpbaeaaW.PrintLast Go.Proofs.YtpjobcnfjpbaeaaW.PrintMore
open Go.Proofs.Ytpjobcnfjpbaeaa.PA Go.Proofs.Ytpjobcnfjpbaeaa.M
set_option maxRecDepth 100000 in
set_option maxHeartbeats 1600000 in
theorem checks_walk0 (A : Option Addr) (c : Nat) (l : List S47) (A1 : Option Addr) (c1 : Nat) (r : List Int) (w : World) (hr : Kd.C k47 w A l.length l) (hc : l.length ≤ c)
    (_hw : ∀ x ∈ l, (Lit.int .i64 x.f0).wf = true ∧ (Lit.int .i64 x.f1).wf = true ∧ (Lit.int .i64 x.f2).wf = true) (hr1 : Kd.C (Kd.int .i64) w A1 r.length r) (hc1 : r.length ≤ c1) (_hw1 : ∀ x ∈ r, (Lit.int .i64 x).wf = true)
    (A2 : Option Addr) (c2 : Nat) (xt : List Int) (A3 : Option Addr) (c3 : Nat) (xp : List Int) (hr2 : Kd.C (Kd.int .i64) w A2 xt.length xt) (hc2 : xt.length ≤ c2) (hr3 : Kd.C (Kd.int .i64) w A3 xp.length xp) (hc3 : xp.length ≤ c3) (_hw2 : ∀ x ∈ xt, (Lit.int .i64 x).wf = true) (_hw3 : ∀ x ∈ xp, (Lit.int .i64 x).wf = true) :
    Calls Try.prog 12 #[.slice A l.length c, .slice A1 r.length c1, .agg #[.slice A2 xt.length c2, .slice A3 xp.length c3]] w fun e w' => e = .returned (.bool true) ∧ Below w.heap.size w w' := by
  clear _hw2 _hw3
  have hbox : Below w.heap.size w (w.alloc (.cells #[.slice A2 xt.length c2, .slice A3 xp.length c3] 39)) := (Below.refl _ _).alloc (Nat.le_refl _) _
  have hl2 := fun w' (h : Below w.heap.size w w') => list_c A2 c2 xt w' (Kd.C_below hr2 h) hc2
  have hl3 := fun w' (h : Below w.heap.size w w') => list_c A3 c3 xp w' (Kd.C_below hr3 h) hc3
  obtain ⟨tk, htk⟩ : ∃ tk, tk = xt.take 61 := ⟨_, rfl⟩
  obtain ⟨pr, hpr⟩ : ∃ pr, pr = xp.take 61 := ⟨_, rfl⟩
  have htl : tk.length ≤ 61 := by rw [htk, List.length_take]; omega
  rw [← htk] at hl2
  rw [← hpr] at hl3
  have HL2 := Lib.hid hl2
  have HL3 := Lib.hid hl3
  have HBX := Lib.hid hbox
  have HS0 : Hid ((w.alloc (.cells #[.slice A2 xt.length c2, .slice A3 xp.length c3] 39)).heap.size = w.heap.size + 1) := Lib.hid (by simp)
  clear htk hpr hl2 hl3 hr2 hr3
  have hbk := bookings_c A c l _ (Kd.C_below hr hbox) hc
  have hli := fun w' (h : Below w.heap.size w w') => list_c A1 c1 r w' (Kd.C_below hr1 h) hc1
  obtain ⟨b, hb⟩ : ∃ b, b = l.take 41 := ⟨_, rfl⟩
  obtain ⟨own, hown⟩ : ∃ own, own = r.take 61 := ⟨_, rfl⟩
  have hbl : b.length ≤ 41 := by rw [hb, List.length_take]; omega
  have hol : own.length ≤ 61 := by rw [hown, List.length_take]; omega
  rw [← hb] at hbk
  rw [← hown] at hli
  have HBK := Lib.hid hbk
  have HLI := Lib.hid hli
  clear hb hown hbk hli hr hr1 _hw _hw1 hbox
  go_enter Try.func12, Try.ntmps12
  go_wp2_with fail
  refine HBK.out.mono ?_
  rintro e w1 ⟨v1, rfl, hR1, hB1⟩
  rw [HS0.out] at hB1
  have hs1 := hB1.size
  rw [HS0.out] at hs1
  have hBw1 : Below w.heap.size w w1 := HBX.out.trans (hB1.mono (by omega))
  have HL := Lib.hid (HLI.out w1 hBw1)
  have hcx : w1.heap[w.heap.size]? = some (.cells #[.slice A2 xt.length c2, .slice A3 xp.length c3] 39 (0, 0)) := by rw [hB1.block _ (by omega)]; exact heap_alloc_new _ _
  obtain ⟨BA, bc, rfl, hbc, hCb⟩ := Kd.R_reads hR1
  have HCB := Lib.hid hCb
  have HCX1 := Lib.hid hcx
  have HBW1 := Lib.hid hBw1
  clear hR1 hB1 hCb hcx hBw1
  go_wp2_with fail
  refine HL.out.mono ?_
  rintro e w2 ⟨v2, rfl, hR2, hB2⟩
  have hs2 := hB2.size
  obtain ⟨OA, oc, rfl, hoc, hCo⟩ := Kd.R_reads hR2
  have HB2w : Hid (Below w.heap.size w w2) := Lib.hid (HBW1.out.trans (hB2.mono (by omega)))
  have hCb2 := Kd.C_below HCB.out hB2
  have HCB2 := Lib.hid hCb2
  have HCO := Lib.hid hCo
  have hcx2 : w2.heap[w.heap.size]? = some (.cells #[.slice A2 xt.length c2, .slice A3 xp.length c3] 39 (0, 0)) := by rw [hB2.block _ (by omega)]; exact HCX1.out
  have HCX2 := Lib.hid hcx2
  clear hR2 hB2 hCb2 hCo hcx2
  have HGI : Hid ((bookB b && (roomB own && forB b own)) = true ↔ Go.Proofs.Ytpjobcnfjpbaeaa.A.Good b own) := Lib.hid good_iff
  obtain ⟨B1, h1⟩ : ∃ B1, bookB b = B1 := ⟨_, rfl⟩
  obtain ⟨B2, h2⟩ : ∃ B2, roomB own = B2 := ⟨_, rfl⟩
  obtain ⟨B3, h3⟩ : ∃ B3, forB b own = B3 := ⟨_, rfl⟩
  rw [h1, h2, h3] at HGI
  have H1 := Lib.hid h1
  have H2 := Lib.hid h2
  have H3 := Lib.hid h3
  clear h1 h2 h3
  have CE : Hid (∀ w', Below w2.heap.size w2 w' → w'.cell? ⟨w.heap.size, 0, none⟩ = some (.slice A2 xt.length c2) ∧ w'.cell? ⟨w.heap.size, 1, none⟩ = some (.slice A3 xp.length c3) ∧ Below w2.heap.size w2 w') := Lib.hid (fun w' h => by
    have h1 := (h.block _ (show w.heap.size < w2.heap.size by omega)).trans HCX2.out
    exact ⟨by simp [World.cell?, h1], by simp [World.cell?, h1], h⟩)
  have HA2 : Hid (∀ w', Below w2.heap.size w2 w' → Calls Try.prog 15 #[.slice A2 xt.length c2] w' fun e w'' => ∃ v, e = .returned v ∧ Kd.R (Kd.int .i64) 3 w'' w'.heap.size (fun _ => True) v tk ∧ Below w'.heap.size w' w'') := Lib.hid (fun w' h => HL2.out w' (HB2w.out.trans (h.mono (by omega))))
  have HA3 : Hid (∀ w', Below w2.heap.size w2 w' → Calls Try.prog 15 #[.slice A3 xp.length c3] w' fun e w'' => ∃ v, e = .returned v ∧ Kd.R (Kd.int .i64) 3 w'' w'.heap.size (fun _ => True) v pr ∧ Below w'.heap.size w' w'') := Lib.hid (fun w' h => HL3.out w' (HB2w.out.trans (h.mono (by omega))))
  go_upto_region 2 with fail
  go_cut [9] (fun v9 wx => ∃ (g : Nat) (TA : Option Addr) (ta : Nat) (PA : Option Addr) (pa : Nat), v9 = .pointer (some ⟨g, 0, none⟩) ∧ w2.heap.size ≤ g ∧ Hid (wx.heap[g]? = some (.cells #[.slice TA tk.length ta, .slice PA pr.length pa] 39 (0, 0))) ∧ tk.length ≤ ta ∧ pr.length ≤ pa ∧ Hid (Kd.C (Kd.int .i64) wx TA tk.length tk) ∧ Hid (Kd.C (Kd.int .i64) wx PA pr.length pr) ∧ Hid (Below w2.heap.size w2 wx))
  case first =>
    go_region_held3 (fun w' => w'.cell? ⟨w.heap.size, 0, none⟩ = some (.slice A2 xt.length c2) ∧ w'.cell? ⟨w.heap.size, 1, none⟩ = some (.slice A3 xp.length c3) ∧ Below w2.heap.size w2 w')
      ((refine CE.out _ ?_; first | exact (Below.refl _ _).drew | exact ((Below.refl _ _).drew).alloc (Nat.le_refl _) _ | exact ((Below.refl _ _).alloc (Nat.le_refl _) _).drew | exact hB6 | exact hB6.alloc hB6.size _ | exact hB5 | exact hB5.alloc hB5.size _ | exact (hB6.setCell (p := ⟨w2.heap.size, 0, none⟩) (Nat.le_refl _) _).setCell (p := ⟨w2.heap.size, 1, none⟩) (Nat.le_refl _) _ | exact (hB6.setCell (p := ⟨w5.heap.size, 0, none⟩) hB5.size _).setCell (p := ⟨w5.heap.size, 1, none⟩) hB5.size _))
      (first
        | (go_at_call_of 15 (Value.slice A2 xt.length c2)
           refine (HA2.out _ ?_).mono ?_
           · first | exact (Below.refl _ _).drew | exact ((Below.refl _ _).alloc (Nat.le_refl _) _).drew
           rintro e w5 ⟨v5, rfl, hR5, hb5⟩
           have hB5 : Below w2.heap.size w2 w5 := by first | exact ((Below.refl _ _).drew).trans (hb5.mono (Nat.le_refl _)) | exact (((Below.refl _ _).alloc (Nat.le_refl _) _).drew).trans (hb5.mono (by simp))
           obtain ⟨TA, ta, rfl, hta, hCt⟩ := Kd.R_reads hR5
           try have hg5 : w5.heap[w2.heap.size]? = some (.cells #[Value.slice none 0 0, Value.slice none 0 0] 39 (0, 0)) := (hb5.block _ (by simp)).trans (heap_alloc_new w2 (Obj.cells #[Value.slice none 0 0, Value.slice none 0 0] 39)))
        | (go_at_call_of 15 (Value.slice A3 xp.length c3)
           refine (HA3.out _ ?_).mono ?_
           · first | exact hB5 | exact hB5.alloc hB5.size _
           rintro e w6 ⟨v6, rfl, hR6, hb6⟩
           have hB6 : Below w2.heap.size w2 w6 := by first | exact hB5.trans (hb6.mono hB5.size) | exact (hB5.alloc hB5.size _).trans (hb6.mono (hB5.alloc hB5.size (Obj.cells #[Value.slice none 0 0, Value.slice none 0 0] 39)).size)
           obtain ⟨PA, pa, rfl, hpa, hCp⟩ := Kd.R_reads hR6
           first
             | (have hg6 : w6.heap[w2.heap.size]? = some (.cells #[Value.slice none 0 0, Value.slice none 0 0] 39 (0, 0)) := (hb6.block _ (by have := hb5.size; simp at this; omega)).trans hg5
                have z0 : w6.cell? ⟨w2.heap.size, 0, none⟩ = some (.slice none 0 0) := by simp [World.cell?, hg6]
                have z1 : w6.cell? ⟨w2.heap.size, 1, none⟩ = some (.slice none 0 0) := by simp [World.cell?, hg6]
                have zf : ∀ k, w6.frozen? ⟨w2.heap.size, k, none⟩ = false := fun k => by simp [World.frozen?, hg6])
             | (have hg6 : w6.heap[w5.heap.size]? = some (.cells #[Value.slice none 0 0, Value.slice none 0 0] 39 (0, 0)) := (hb6.block _ (by simp)).trans (heap_alloc_new w5 (Obj.cells #[Value.slice none 0 0, Value.slice none 0 0] 39))
                have z0 : w6.cell? ⟨w5.heap.size, 0, none⟩ = some (.slice none 0 0) := by simp [World.cell?, hg6]
                have z1 : w6.cell? ⟨w5.heap.size, 1, none⟩ = some (.slice none 0 0) := by simp [World.cell?, hg6]
                have zf : ∀ k, w6.frozen? ⟨w5.heap.size, k, none⟩ = false := fun k => by simp [World.frozen?, hg6])
             | skip))
    · go_wp2_with fail
      go_meet
      exact ⟨w6.heap.size, TA, ta, PA, pa, rfl, hB6.size, heap_alloc_new _ _, hta, hpa, (Kd.R_reads' (Kd.R_below (Kd.R_below hR5 hb6) ((Below.refl _ _).alloc (Nat.le_refl _) _))).2.2, (Kd.R_reads' (Kd.R_below hR6 ((Below.refl _ _).alloc (Nat.le_refl _) _))).2.2, hB6.alloc hB6.size _⟩
    · go_wp2_with fail
      go_meet
      exact ⟨w5.heap.size, TA, ta, PA, pa, rfl, hB5.size, blk_set (blk_set hg6 0 (.slice TA tk.length ta)) 1 (.slice PA pr.length pa), hta, hpa, (Kd.R_reads' (Kd.R_set (Kd.R_set (Kd.R_below (Kd.R_below hR5 ((Below.refl _ _).alloc (Nat.le_refl _) _)) hb6) hg6 (by decide) 0 (.slice TA tk.length ta)) (blk_set hg6 0 (.slice TA tk.length ta)) (by decide) 1 (.slice PA pr.length pa))).2.2, (Kd.R_reads' (Kd.R_set (Kd.R_set hR6 hg6 (by decide) 0 (.slice TA tk.length ta)) (blk_set hg6 0 (.slice TA tk.length ta)) (by decide) 1 (.slice PA pr.length pa))).2.2, (hB6.setCell (p := ⟨w5.heap.size, 0, none⟩) hB5.size _).setCell (p := ⟨w5.heap.size, 1, none⟩) hB5.size _⟩
    · go_wp2_with fail
      go_meet
      exact ⟨w2.heap.size, TA, ta, PA, pa, rfl, (Nat.le_refl _), blk_set (blk_set hg6 0 (.slice TA tk.length ta)) 1 (.slice PA pr.length pa), hta, hpa, (Kd.R_reads' (Kd.R_set (Kd.R_set (Kd.R_below hR5 hb6) hg6 (by decide) 0 (.slice TA tk.length ta)) (blk_set hg6 0 (.slice TA tk.length ta)) (by decide) 1 (.slice PA pr.length pa))).2.2, (Kd.R_reads' (Kd.R_set (Kd.R_set hR6 hg6 (by decide) 0 (.slice TA tk.length ta)) (blk_set hg6 0 (.slice TA tk.length ta)) (by decide) 1 (.slice PA pr.length pa))).2.2, (hB6.setCell (p := ⟨w2.heap.size, 0, none⟩) (Nat.le_refl _) _).setCell (p := ⟨w2.heap.size, 1, none⟩) (Nat.le_refl _) _⟩
  case rest =>
    obtain ⟨g, TA, ta, PA, pa, rfl, hgl, HGB, hta, hpa, HCT, HCP, HB3⟩ := hcut
    rename World => w3
    have hs3 := HB3.out.size
    have HBw3 := Lib.hid (HB2w.out.trans (HB3.out.mono (by omega)))
    have HCB3 := Lib.hid (Kd.C_below HCB2.out HB3.out)
    have HCO3 := Lib.hid (Kd.C_below HCO.out HB3.out)
    have hgl3 : g < w3.heap.size := (Array.getElem?_eq_some_iff.1 HGB.out).1
    have z0 : w3.cell? ⟨g, 0, none⟩ = some (.slice TA tk.length ta) := by simp [World.cell?, HGB.out]
    have z1 : w3.cell? ⟨g, 1, none⟩ = some (.slice PA pr.length pa) := by simp [World.cell?, HGB.out]
    clear CE HA2 HA3 HCX2 HCX1
    have HGI : Hid ((bookB b && (roomB own && forB b own)) = true ↔ Go.Proofs.Ytpjobcnfjpbaeaa.A.Good b own) := Lib.hid good_iff
    obtain ⟨B1, h1⟩ : ∃ B1, bookB b = B1 := ⟨_, rfl⟩
    obtain ⟨B2, h2⟩ : ∃ B2, roomB own = B2 := ⟨_, rfl⟩
    obtain ⟨B3, h3⟩ : ∃ B3, forB b own = B3 := ⟨_, rfl⟩
    rw [h1, h2, h3] at HGI
    have H1 := Lib.hid h1
    have H2 := Lib.hid h2
    have H3 := Lib.hid h3
    clear h1 h2 h3
    cases B1 with
    | false =>
      have hno : ¬ Go.Proofs.Ytpjobcnfjpbaeaa.A.Good b own := fun h => by have := HGI.out.2 h; simp at this
      have HFw3 := Lib.hid (Below.refl w3.heap.size w3)
      go_wp2_with fail
      refine (Check_bad BA bc b OA oc own TA ta tk PA pa pr w3 HCB3.out hbc HCO3.out hoc HCT.out hta HCP.out hpa hno).mono ?_
      rintro e w4 ⟨rfl, hB⟩
      have hsw4 := hB.size
      have HFw4 := Lib.hid (HFw3.out.trans (hB.mono (by omega)))
      clear hB
      clear hno z0 z1
      go_wp2_with fail
      refine (refBookings_c BA bc b _ (Kd.C_below HCB3.out HFw4.out) hbc (by omega)).mono ?_
      rintro e w5 ⟨rfl, hB⟩
      rw [H1.out]
      have hsw5 := hB.size
      have HFw5 := Lib.hid (HFw4.out.trans (hB.mono (by omega)))
      clear hB
      go_wp2_with fail
      refine (awake_c _).mono ?_
      rintro e w99 ⟨rfl, hB⟩
      have HF99 := Lib.hid (HFw5.out.trans (hB.mono (by omega)))
      clear hB
      go_wp2_with fail
      go_ret
      exact ⟨rfl, HBw3.out.trans (HF99.out.mono (by omega))⟩
    | true =>
      cases B2 with
      | false =>
        have hno : ¬ Go.Proofs.Ytpjobcnfjpbaeaa.A.Good b own := fun h => by have := HGI.out.2 h; simp at this
        have HFw3 := Lib.hid (Below.refl w3.heap.size w3)
        go_wp2_with fail
        refine (Check_bad BA bc b OA oc own TA ta tk PA pa pr w3 HCB3.out hbc HCO3.out hoc HCT.out hta HCP.out hpa hno).mono ?_
        rintro e w4 ⟨rfl, hB⟩
        have hsw4 := hB.size
        have HFw4 := Lib.hid (HFw3.out.trans (hB.mono (by omega)))
        clear hB
        clear hno z0 z1
        go_wp2_with fail
        refine (refBookings_c BA bc b _ (Kd.C_below HCB3.out HFw4.out) hbc (by omega)).mono ?_
        rintro e w5 ⟨rfl, hB⟩
        rw [H1.out]
        have hsw5 := hB.size
        have HFw5 := Lib.hid (HFw4.out.trans (hB.mono (by omega)))
        clear hB
        go_wp2_with fail
        refine (refRooms_c OA oc own _ (Kd.C_below HCO3.out HFw5.out) hoc (by omega)).mono ?_
        rintro e w6 ⟨rfl, hB⟩
        rw [H2.out]
        have hsw6 := hB.size
        have HFw6 := Lib.hid (HFw5.out.trans (hB.mono (by omega)))
        clear hB
        go_wp2_with fail
        refine (awake_c _).mono ?_
        rintro e w99 ⟨rfl, hB⟩
        have HF99 := Lib.hid (HFw6.out.trans (hB.mono (by omega)))
        clear hB
        go_wp2_with fail
        go_ret
        exact ⟨rfl, HBw3.out.trans (HF99.out.mono (by omega))⟩
      | true =>
        cases B3 with
        | false =>
          have hno : ¬ Go.Proofs.Ytpjobcnfjpbaeaa.A.Good b own := fun h => by have := HGI.out.2 h; simp at this
          have HFw3 := Lib.hid (Below.refl w3.heap.size w3)
          go_wp2_with fail
          refine (Check_bad BA bc b OA oc own TA ta tk PA pa pr w3 HCB3.out hbc HCO3.out hoc HCT.out hta HCP.out hpa hno).mono ?_
          rintro e w4 ⟨rfl, hB⟩
          have hsw4 := hB.size
          have HFw4 := Lib.hid (HFw3.out.trans (hB.mono (by omega)))
          clear hB
          clear hno z0 z1
          go_wp2_with fail
          refine (refBookings_c BA bc b _ (Kd.C_below HCB3.out HFw4.out) hbc (by omega)).mono ?_
          rintro e w5 ⟨rfl, hB⟩
          rw [H1.out]
          have hsw5 := hB.size
          have HFw5 := Lib.hid (HFw4.out.trans (hB.mono (by omega)))
          clear hB
          go_wp2_with fail
          refine (refRooms_c OA oc own _ (Kd.C_below HCO3.out HFw5.out) hoc (by omega)).mono ?_
          rintro e w6 ⟨rfl, hB⟩
          rw [H2.out]
          have hsw6 := hB.size
          have HFw6 := Lib.hid (HFw5.out.trans (hB.mono (by omega)))
          clear hB
          go_wp2_with fail
          refine (refFor_c BA bc b OA oc own _ (Kd.C_below HCB3.out HFw6.out) hbc (Kd.C_below HCO3.out HFw6.out) hoc (by omega)).mono ?_
          rintro e w7 ⟨rfl, hB⟩
          rw [H3.out]
          have hsw7 := hB.size
          have HFw7 := Lib.hid (HFw6.out.trans (hB.mono (by omega)))
          clear hB
          go_wp2_with fail
          refine (awake_c _).mono ?_
          rintro e w99 ⟨rfl, hB⟩
          have HF99 := Lib.hid (HFw7.out.trans (hB.mono (by omega)))
          clear hB
          go_wp2_with fail
          go_ret
          exact ⟨rfl, HBw3.out.trans (HF99.out.mono (by omega))⟩
        | true =>
          have HG := Lib.hid (HGI.out.1 rfl)
          have HFw3 := Lib.hid (Below.refl w3.heap.size w3)
          by_cases hrp : RightP b own tk pr
          · have HRP := Lib.hid hrp
            clear hrp
            go_wp2_with fail
            refine (Check_t BA bc b OA oc own TA ta tk PA pa pr w3 HCB3.out hbc HCO3.out hoc HCT.out hta HCP.out hpa HG.out (by omega) HRP.out).mono ?_
            rintro e w4 ⟨rfl, hB⟩
            have hsw4 := hB.size
            have HFw4 := Lib.hid (HFw3.out.trans (hB.mono (by omega)))
            clear hB
            clear z0 z1
            go_wp2_with fail
            refine (refBookings_c BA bc b _ (Kd.C_below HCB3.out HFw4.out) hbc (by omega)).mono ?_
            rintro e w5 ⟨rfl, hB⟩
            rw [H1.out]
            have hsw5 := hB.size
            have HFw5 := Lib.hid (HFw4.out.trans (hB.mono (by omega)))
            clear hB
            go_wp2_with fail
            refine (refRooms_c OA oc own _ (Kd.C_below HCO3.out HFw5.out) hoc (by omega)).mono ?_
            rintro e w6 ⟨rfl, hB⟩
            rw [H2.out]
            have hsw6 := hB.size
            have HFw6 := Lib.hid (HFw5.out.trans (hB.mono (by omega)))
            clear hB
            go_wp2_with fail
            refine (refFor_c BA bc b OA oc own _ (Kd.C_below HCB3.out HFw6.out) hbc (Kd.C_below HCO3.out HFw6.out) hoc (by omega)).mono ?_
            rintro e w7 ⟨rfl, hB⟩
            rw [H3.out]
            have hsw7 := hB.size
            have HFw7 := Lib.hid (HFw6.out.trans (hB.mono (by omega)))
            clear hB
            have z0 : w7.cell? ⟨g, 0, none⟩ = some (.slice TA tk.length ta) := by simp [World.cell?, (HFw7.out.block g hgl3).trans HGB.out]
            have z1 : w7.cell? ⟨g, 1, none⟩ = some (.slice PA pr.length pa) := by simp [World.cell?, (HFw7.out.block g hgl3).trans HGB.out]
            go_wp2_with fail
            refine (refRight_t BA bc b OA oc own TA ta tk PA pa pr w7 (Kd.C_below HCB3.out HFw7.out) hbc (Kd.C_below HCO3.out HFw7.out) hoc (Kd.C_below HCT.out HFw7.out) hta (Kd.C_below HCP.out HFw7.out) hpa HG.out (by omega) HRP.out).mono ?_
            rintro e w8 ⟨rfl, hB⟩
            have hsw8 := hB.size
            have HFw8 := Lib.hid (HFw7.out.trans (hB.mono (by omega)))
            clear hB
            clear z0 z1
            go_wp2_with fail
            refine (awake_c _).mono ?_
            rintro e w99 ⟨rfl, hB⟩
            have HF99 := Lib.hid (HFw8.out.trans (hB.mono (by omega)))
            clear hB
            go_wp2_with fail
            go_ret
            exact ⟨rfl, HBw3.out.trans (HF99.out.mono (by omega))⟩
          · have HRP := Lib.hid hrp
            clear hrp
            go_wp2_with fail
            refine (Check_f BA bc b OA oc own TA ta tk PA pa pr w3 HCB3.out hbc HCO3.out hoc HCT.out hta HCP.out hpa HG.out (by omega) HRP.out).mono ?_
            rintro e w4 ⟨rfl, hB⟩
            have hsw4 := hB.size
            have HFw4 := Lib.hid (HFw3.out.trans (hB.mono (by omega)))
            clear hB
            clear z0 z1
            go_wp2_with fail
            refine (refBookings_c BA bc b _ (Kd.C_below HCB3.out HFw4.out) hbc (by omega)).mono ?_
            rintro e w5 ⟨rfl, hB⟩
            rw [H1.out]
            have hsw5 := hB.size
            have HFw5 := Lib.hid (HFw4.out.trans (hB.mono (by omega)))
            clear hB
            go_wp2_with fail
            refine (refRooms_c OA oc own _ (Kd.C_below HCO3.out HFw5.out) hoc (by omega)).mono ?_
            rintro e w6 ⟨rfl, hB⟩
            rw [H2.out]
            have hsw6 := hB.size
            have HFw6 := Lib.hid (HFw5.out.trans (hB.mono (by omega)))
            clear hB
            go_wp2_with fail
            refine (refFor_c BA bc b OA oc own _ (Kd.C_below HCB3.out HFw6.out) hbc (Kd.C_below HCO3.out HFw6.out) hoc (by omega)).mono ?_
            rintro e w7 ⟨rfl, hB⟩
            rw [H3.out]
            have hsw7 := hB.size
            have HFw7 := Lib.hid (HFw6.out.trans (hB.mono (by omega)))
            clear hB
            have z0 : w7.cell? ⟨g, 0, none⟩ = some (.slice TA tk.length ta) := by simp [World.cell?, (HFw7.out.block g hgl3).trans HGB.out]
            have z1 : w7.cell? ⟨g, 1, none⟩ = some (.slice PA pr.length pa) := by simp [World.cell?, (HFw7.out.block g hgl3).trans HGB.out]
            go_wp2_with fail
            refine (refRight_f BA bc b OA oc own TA ta tk PA pa pr w7 (Kd.C_below HCB3.out HFw7.out) hbc (Kd.C_below HCO3.out HFw7.out) hoc (Kd.C_below HCT.out HFw7.out) hta (Kd.C_below HCP.out HFw7.out) hpa HG.out (by omega) HRP.out).mono ?_
            rintro e w8 ⟨rfl, hB⟩
            have hsw8 := hB.size
            have HFw8 := Lib.hid (HFw7.out.trans (hB.mono (by omega)))
            clear hB
            clear z0 z1
            go_wp2_with fail
            refine (awake_c _).mono ?_
            rintro e w99 ⟨rfl, hB⟩
            have HF99 := Lib.hid (HFw8.out.trans (hB.mono (by omega)))
            clear hB
            go_wp2_with fail
            go_ret
            exact ⟨rfl, HBw3.out.trans (HF99.out.mono (by omega))⟩
theorem checks_walk (A : Option Addr) (c : Nat) (l : List S47) (A1 : Option Addr) (c1 : Nat) (r : List Int) (A2 : Option Addr) (c2 : Nat) (tk : List Int) (A3 : Option Addr) (c3 : Nat) (pr : List Int) (w : World) (hr : Kd.C k47 w A l.length l) (hc : l.length ≤ c)
    (hw : ∀ x ∈ l, (Lit.int .i64 x.f0).wf = true ∧ (Lit.int .i64 x.f1).wf = true ∧ (Lit.int .i64 x.f2).wf = true) (hr1 : Kd.C (Kd.int .i64) w A1 r.length r) (hc1 : r.length ≤ c1) (hw1 : ∀ x ∈ r, (Lit.int .i64 x).wf = true)
    (hr2 : Kd.C (Kd.int .i64) w A2 tk.length tk) (hc2 : tk.length ≤ c2) (hr3 : Kd.C (Kd.int .i64) w A3 pr.length pr) (hc3 : pr.length ≤ c3) (hw2 : ∀ x ∈ tk, (Lit.int .i64 x).wf = true) (hw3 : ∀ x ∈ pr, (Lit.int .i64 x).wf = true) :
    Calls Try.prog 12 #[.slice A l.length c, .slice A1 r.length c1, .agg #[.slice A2 tk.length c2, .slice A3 pr.length c3]] w fun e w' => e = .returned (.bool true) ∧ Below w.heap.size w w' :=
  checks_walk0 A c l A1 c1 r w hr hc hw hr1 hc1 hw1 A2 c2 tk A3 c3 pr hr2 hc2 hr3 hc3 hw2 hw3
end Go.Proofs.Ytpjobcnfjpbaeaa.A

namespace Go.Proofs.Ytpjobcnfjpbaeaa.E
open Go.ChangeShapes Go.WideShapes Go.ChangeAt Go.RowKit Go.Deep
open Go.Proofs.YtpjobcnfjpbaeaaW.PrintWords Go.Proofs.YtpjobcnfjpbaeaaW.PrintLast Go.Proofs.YtpjobcnfjpbaeaaW.PrintMore
open Go.Proofs.Ytpjobcnfjpbaeaa.PA
variable {H : Type} {enc : TypeId × Value → H}
theorem open_int3 {W : World} {fuel : Nat} {cs : List Value} {x : DataW H × List MemPlace} (h : DataW.trod enc Try.prog W 0 (fun _ => true) true fuel 3 cs = some x) : ∃ n, cs = [.int .i64 n] ∧ x = (.lit (.int .i64 n), []) ∧ (Lit.int .i64 n).wf = true :=
  DataW.trod_int Try.underlying3 h
theorem len3 : ∀ {l : List Value}, l.length = 3 → ∃ a b c, l = [a, b, c]
  | [a, b, c], _ => ⟨a, b, c, rfl⟩
  | [], h => by simp at h
  | [_], h => by simp at h
  | [_, _], h => by simp at h
  | _ :: _ :: _ :: _ :: _, h => by simp at h
instance : Inhabited S47 := ⟨z47⟩
theorem open_bks {W : World} {a : Option Addr} {len cap : Nat} {d : DataW H} {p : List MemPlace} (h : DataW.Trod enc Try.prog W 0 (fun _ => true) true 22 (.slice a len cap) d p) :
    ∃ xs : List S47, xs.length = len ∧ len ≤ cap ∧ Kd.C k47 W a len xs ∧ ∀ x ∈ xs, (Lit.int .i64 x.f0).wf = true ∧ (Lit.int .i64 x.f1).wf = true ∧ (Lit.int .i64 x.f2).wf = true := by
  obtain ⟨fuel, hf⟩ := h
  have e3 : Try.prog.cellsOf 47 = 3 := by kernel_rfl
  have e1 : Try.prog.cellsOf 3 = 1 := by kernel_rfl
  rcases open_slice Try.underlying22 hf with ⟨hcs, _⟩ | ⟨x, l, c, m, n, D, Pl, hcs, _, hl, hm, hmm, _, hel⟩
  · simp [Value.cells] at hcs
    obtain ⟨rfl, rfl, rfl⟩ := hcs
    exact ⟨[], rfl, Nat.le_refl _, ⟨rfl, by omega, fun h => by omega⟩, fun x hx => by simp at hx⟩
  · simp [Value.cells] at hcs
    obtain ⟨rfl, rfl, rfl⟩ := hcs
    simp only [if_true] at hmm
    subst hmm
    have key : ∀ i, i < m → ∃ s : S47, (W.cell? (x.add (i * 3)) = some (.int .i64 s.f0) ∧ W.cell? (x.add (i * 3 + 1)) = some (.int .i64 s.f1) ∧ W.cell? (x.add (i * 3 + 2)) = some (.int .i64 s.f2)) ∧ ((Lit.int .i64 s.f0).wf = true ∧ (Lit.int .i64 s.f1).wf = true ∧ (Lit.int .i64 s.f2).wf = true) := by
      intro i hi
      obtain ⟨cs', h1, h2⟩ := hel i hi
      rw [e3] at h1
      obtain ⟨_, hlen, hcell⟩ := World.cells?_some h1
      obtain ⟨y0, y1, y2, q, _, _, g0, g1, g2⟩ := trod_struct3 Try.underlying47 h2
      obtain ⟨c0, c1, c2, rfl⟩ := len3 hlen
      obtain ⟨n0, q0, _, w0⟩ := open_int3 g0
      obtain ⟨n1, q1, _, w1⟩ := open_int3 g1
      obtain ⟨n2, q2, _, w2⟩ := open_int3 g2
      simp [e1] at q0 q1 q2
      subst q0 q1 q2
      refine ⟨⟨n0, n1, n2⟩, ⟨?_, ?_, ?_⟩, w0, w1, w2⟩
      · have := hcell 0 (by omega); rw [Go.Deep.add_add] at this; simpa using this
      · have := hcell 1 (by omega); rw [Go.Deep.add_add] at this; simpa using this
      · have := hcell 2 (by omega); rw [Go.Deep.add_add] at this; simpa using this
    obtain ⟨f, hfs⟩ := choose_lt (α := S47) key
    refine ⟨(List.range len).map f, by simp, hl, ⟨by simp, by unfold maxLen at hm; omega, fun _ => ⟨x, rfl, fun j p hp => ?_⟩⟩, fun s hs => ?_⟩
    · have hj : j < len := by have := (List.getElem?_eq_some_iff.1 hp).1; simpa using this
      simp [hj] at hp
      subst hp
      obtain ⟨⟨a0, a1, a2⟩, _⟩ := hfs j (by omega)
      refine ⟨[.int .i64 (f j).f0, .int .i64 (f j).f1, .int .i64 (f j).f2], rfl, k47_mk W (f j), fun i u hu => ?_⟩
      match i, hu with
      | 0, hu => simp at hu; subst hu; exact a0
      | 1, hu => simp at hu; subst hu; exact a1
      | 2, hu => simp at hu; subst hu; exact a2
      | i + 3, hu => simp at hu
    · simp only [List.mem_map, List.mem_range] at hs
      obtain ⟨i, hi, rfl⟩ := hs
      exact (hfs i (by omega)).2
theorem open_is {W : World} {a : Option Addr} {len cap : Nat} {d : DataW H} {p : List MemPlace} {fuel : Nat} (hf : DataW.trod enc Try.prog W 0 (fun _ => true) true fuel 23 [.slice a len cap] = some (d, p)) :
    ∃ xs : List Int, xs.length = len ∧ len ≤ cap ∧ Kd.C (Kd.int .i64) W a len xs ∧ ∀ x ∈ xs, (Lit.int .i64 x).wf = true := by
  rcases open_ints Try.underlying23 Try.underlying3 (by kernel_rfl) hf with ⟨hcs, _⟩ | ⟨x, l, c, zs, hcs, _, hl, hm, hz, _, hcell, hwz⟩
  · simp at hcs
    obtain ⟨rfl, rfl, rfl⟩ := hcs
    exact ⟨[], rfl, Nat.le_refl _, ⟨rfl, by omega, fun h => by omega⟩, fun x hx => by simp at hx⟩
  · simp at hcs
    obtain ⟨rfl, rfl, rfl⟩ := hcs
    simp only [if_true] at hz
    refine ⟨zs.take len, by rw [List.length_take]; omega, hl, ⟨by rw [List.length_take]; omega, by unfold maxLen at hm; omega, fun _ => ⟨x, rfl, fun j p hp => ?_⟩⟩, fun s hs => hwz s (List.mem_of_mem_take hs)⟩
    have hj : j < len := by have := (List.getElem?_eq_some_iff.1 hp).1; rw [List.length_take] at this; omega
    rw [List.getElem?_take_of_lt hj] at hp
    have h1 := hcell j (by omega)
    rw [List.getD_eq_getElem?_getD, hp] at h1
    refine ⟨[.int .i64 p], rfl, rfl, fun i u hu => ?_⟩
    match i, hu with
    | 0, hu => simp at hu; subst hu; show W.cell? (x.add (j * 1 + 0)) = _; rw [Nat.mul_one, Nat.add_zero]; simpa using h1
    | i + 1, hu => simp at hu
end Go.Proofs.Ytpjobcnfjpbaeaa.E

namespace Go.Proofs.Ytpjobcnfjpbaeaa.E
open Go.ChangeShapes Go.WideShapes Go.ChangeAt Go.RowKit Go.Deep
open Go.Proofs.YtpjobcnfjpbaeaaW.PrintWords Go.Proofs.YtpjobcnfjpbaeaaW.PrintLast Go.Proofs.YtpjobcnfjpbaeaaW.PrintMore
open Go.Proofs.Ytpjobcnfjpbaeaa.PA
variable {H : Type} {enc : TypeId × Value → H}
set_option maxRecDepth 100000 in
theorem open_choice {W : World} {base : Nat} {v : Value} {d : DataW H} {p : List MemPlace} (hv : Value.okWide Try.prog W .any base 39 v) (h : DataW.Trod enc Try.prog W 0 (fun _ => true) true 39 v d p) :
    ∃ (A B : Option Addr) (c1 c2 : Nat) (tk pr : List Int), v = .agg #[.slice A tk.length c1, .slice B pr.length c2] ∧ tk.length ≤ c1 ∧ pr.length ≤ c2 ∧ Kd.C (Kd.int .i64) W A tk.length tk ∧ Kd.C (Kd.int .i64) W B pr.length pr ∧
      (∀ x ∈ tk, (Lit.int .i64 x).wf = true) ∧ ∀ x ∈ pr, (Lit.int .i64 x).wf = true := by
  obtain ⟨v0, v1, y0, y1, n, rfl, _, _, h0, h1⟩ := Joins.open_agg2 Try.underlying39 (by kernel_rfl) (by kernel_rfl) hv h
  have form : ∀ {v : Value} {y : DataW H × List MemPlace}, DataW.trod enc Try.prog W 0 (fun _ => true) true n 23 [v] = some y → ∃ A m c, v = .slice A m c := by
    intro v y h
    rcases open_ints Try.underlying23 Try.underlying3 (by kernel_rfl) h with ⟨hcs, _⟩ | ⟨x, l, c, zs, hcs, _⟩
    · simp at hcs; exact ⟨_, _, _, hcs⟩
    · simp at hcs; exact ⟨_, _, _, hcs⟩
  obtain ⟨A, m0, c0, rfl⟩ := form h0
  obtain ⟨B, m1, c1, rfl⟩ := form h1
  obtain ⟨tk, rfl, e1, e2, e3⟩ := open_is (d := y0.1) (p := y0.2) h0
  obtain ⟨pr, rfl, f1, f2, f3⟩ := open_is (d := y1.1) (p := y1.2) h1
  exact ⟨A, B, c0, c1, tk, pr, rfl, e1, f1, e2, f2, e3, f3⟩
theorem own : ownKnob Try.prog.godebug = none := by kernel_rfl
theorem laidOut : laidOutB Try.prog = true := by kernel_rfl
end Go.Proofs.Ytpjobcnfjpbaeaa.E

namespace Go.Proofs.Ytpjobcnfjpbaeaa.roomsChecks
open Go.ChangeShapes Go.WideShapes Go.ChangeAt Go.RowKit
open Go.Proofs.Ytpjobcnfjpbaeaa.E
set_option maxRecDepth 100000 in
theorem lifted (os : Os) (started : os.Started) (H : Type) (enc : TypeId × Value → H) :
    ReturnsInHanded {} Try.checked os 12 .any (Rows.roomsChecksSpec.pre6 enc Try.prog Try.f12 Rows.roomsChecksRow.domain false) (Rows.roomsChecksSpec.post enc Try.prog Try.f12 false true false false) := by
  refine returnsInHanded_of_change_sized (C := Try.checked) own started (by kernel_rfl) Try.func12
    (ChangeSpec.witness6 (enc := enc) (C := Try.checked) false ⟨#[], #[.slice none 0 0, .slice none 0 0, .agg #[.slice none 0 0, .slice none 0 0]], []⟩ 8 (by kernel_rfl) (by kernel_rfl) (by kernel_rfl) (by kernel_rfl)) ?_
  intro W base args ds gs before hval0 hW hcnd hsz0 _
  have hval : ∀ (j : Nat) t v, Try.f12.params[j]? = some t → args[j]? = some v → Value.okWide Try.prog W .any base t v := hval0
  have hW' := hW
  obtain ⟨p, q, hA0, hV, rfl, hfz, hnd⟩ := hW
  have hA : DataW.TrodAll enc Try.prog W 0 (fun _ => true) true Try.f12.params.toList args.toList ds p := hA0
  rw [Try.params12] at hA hval
  obtain ⟨v0, vs0, d0, ds0, p0, q0, hargs, rfl, rfl, h0, r0⟩ := trodAll_cons hA
  obtain ⟨v1, vs1, d1, ds1, p1, q1, rfl, rfl, rfl, h1, r1⟩ := trodAll_cons r0
  obtain ⟨v2, vs2, d2, ds2, p2, q2, rfl, rfl, rfl, h2, r2⟩ := trodAll_cons r1
  obtain ⟨rfl, rfl, rfl⟩ := trodAll_nil r2
  obtain rfl : args = #[v0, v1, v2] := by cases args; simp_all
  obtain ⟨rfl, rfl⟩ := trodVars_none hV
  have k0 := h0
  have lt0 : ∀ x ∈ p0, x.block < W.heap.size := by obtain ⟨m, hm⟩ := k0; exact DataW.trod_lt m _ _ _ hm
  obtain ⟨a0, len0, cap0, rfl⟩ := okWide_slice Try.underlying22 (hval 0 22 v0 rfl rfl)
  obtain ⟨x0, rfl, y0, z0, w0⟩ := open_bks h0
  have k1 := h1
  have lt1 : ∀ x ∈ p1, x.block < W.heap.size := by obtain ⟨m, hm⟩ := k1; exact DataW.trod_lt m _ _ _ hm
  obtain ⟨a1, len1, cap1, rfl⟩ := okWide_slice Try.underlying23 (hval 1 23 v1 rfl rfl)
  obtain ⟨x1, rfl, y1, z1, w1⟩ : ∃ xs : List Int, xs.length = len1 ∧ len1 ≤ cap1 ∧ Go.Proofs.YtpjobcnfjpbaeaaW.PrintWords.Kd.C (Go.Proofs.YtpjobcnfjpbaeaaW.PrintWords.Kd.int .i64) W a1 len1 xs ∧ ∀ x ∈ xs, (Lit.int .i64 x).wf = true := by obtain ⟨fuel, hf⟩ := h1; exact open_is hf
  have k2 := h2
  have lt2 : ∀ x ∈ p2, x.block < W.heap.size := by obtain ⟨m, hm⟩ := k2; exact DataW.trod_lt m _ _ _ hm
  obtain ⟨A2, B2, c2, e2, x2, y2, rfl, f2, g2, s2, t2, w2, u2⟩ := open_choice (hval 2 39 v2 rfl rfl) h2
  clear hA0 hval0 hsz0
  refine (Go.Proofs.Ytpjobcnfjpbaeaa.A.checks_walk a0 cap0 x0 a1 cap1 x1 A2 c2 x2 B2 e2 y2 W z0 y0 w0 z1 y1 w1 s2 f2 t2 g2 w2 u2).mono fun e W' ⟨he, bel⟩ => ?_
  subst he
  exact ⟨_, rfl, _, _, _, [], _, [], hW', trodAll_mk1 (shut_bool Try.underlying4 _), (trodAll_cons_mk (Below.trod laidOut (by kernel_rfl) (of_decide_eq_true (by kernel_rfl)) k0 bel lt0) (trodAll_cons_mk (Below.trod laidOut (by kernel_rfl) (of_decide_eq_true (by kernel_rfl)) k1 bel lt1) (trodAll_cons_mk (Below.trod laidOut (by kernel_rfl) (of_decide_eq_true (by kernel_rfl)) k2 bel lt2) trodAll_mk0))), rfl, bel.frame _, fun h => by cases h⟩
theorem over : Rows.roomsChecksRow.holds Try.pinned (OpenSpec.ofChange Rows.roomsChecksSpec) :=
  OpenClaim.holds_of_wide 12 Try.f12 rfl rfl rfl rfl rfl rfl rfl ⟨rfl, rfl, rfl, rfl, rfl⟩ rfl rfl rfl rfl rfl (by kernel_rfl) Try.func12 (by kernel_rfl)
    (of_decide_eq_true (by kernel_rfl)) (by unfold Func.isWrapper; first | (rw [if_pos (by decide +kernel)]; kernel_rfl) | (rw [if_neg (by decide +kernel)]; exact ⟨rfl, rfl⟩))
    (fun os started H enc _ => lifted os started H enc)
theorem proved : Rows.RoomsChecksSaid := over
end Go.Proofs.Ytpjobcnfjpbaeaa.roomsChecks
namespace Go.Proofs.Ytpjobcnfjpbaeaa
theorem roomsChecks_holds : Rows.RoomsChecksSaid := roomsChecks.proved
end Go.Proofs.Ytpjobcnfjpbaeaa
