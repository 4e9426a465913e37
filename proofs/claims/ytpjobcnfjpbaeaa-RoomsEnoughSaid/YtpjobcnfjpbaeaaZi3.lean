/- For all bookings the statement RoomsEnough holds: Go's function returns true and changes nothing that existed. -/
import Derived.Test.YtpjobcnfjpbaeaaRows
import Derived.WalkKit
import Derived.ProofKit
import Derived.OpenShut
import Derived.ShutString
import Derived.ChangeOld
import Derived.Below
import Derived.SizedLaws
import Derived.Deep.Slices
import Derived.Deep.Strs
import Derived.Lib.SmallJoins
import Derived.Test.YtpjobcnfjpbaeaaZi2
set_option linter.unusedSimpArgs false
set_option linter.unusedVariables false

namespace Go.Proofs.Ytpjobcnfjpbaeaa.M
open Go.RowKit Go.Proofs.YtpjobcnfjpbaeaaW.PrintWords Go.Proofs.YtpjobcnfjpbaeaaW.PrintLast Go.Proofs.YtpjobcnfjpbaeaaW.PrintMore
open Go.Proofs.Ytpjobcnfjpbaeaa.PA Go.Proofs.Ytpjobcnfjpbaeaa.A
structure RightP (l : List S47) (rooms tk pr : List Int) : Prop where
  asc : Asc l.length tk
  fit : (inst l rooms).Fit (ind tk)
  len : pr.length = rooms.length
  rng : ∀ j, j < rooms.length → 0 ≤ pr.getD j 0 ∧ pr.getD j 0 ≤ 1099511627776
  eq : (inst l rooms).Rev (ind tk) = (inst l rooms).Bd (fun k => pr.getD k 0)
def covI (x : S47) (j : Nat) : Int := if x.f0 ≤ j ∧ (j : Int) < x.f1 then 1 else 0
def cntI (xs : List S47) (j : Nat) : Int := (xs.map (fun x => covI x j)).sum
theorem used_l1 {xs : List S47} {n i : Nat} (hil : i < xs.length) (hn : n ≤ 1000) (hx : xs.length ≤ 1000) {f t : Nat} (_hft : f ≤ t) (htn : t ≤ n) (p : Int) : ∀ d q (us : List Int), q + d = t → us.length = n → (∀ j, 0 ≤ us.getD j 0 ∧ us.getD j 0 ≤ 1000) →
    ∃ us' : List Int, us'.length = n ∧ (∀ j, us'.getD j 0 = us.getD j 0 + if q ≤ j ∧ j < t then 1 else 0) ∧ ∀ r, Ev (fun k => rooms_used.l0 k us' xs (xs.length : Int) ((i + 1 : Nat) : Int)) r → Ev (fun k => rooms_used.l1 k us (q : Int) xs (xs.length : Int) (i : Int) (f : Int) (t : Int) p) r := by
  intro d
  induction d with
  | zero =>
    intro q us hq hus _
    obtain rfl : q = t := by omega
    refine ⟨us, hus, fun j => by rw [if_neg (by omega)]; omega, fun r h => Ev.step (fun k => ?_) h⟩
    rw [rooms_used.l1, if_neg (by omega), wrap_succ hil (by omega)]
  | succ d ih =>
    intro q us hq hus hb
    have hbq := hb q
    have ew : wrap64 (us.getD q 0 + 1) = us.getD q 0 + 1 := by unfold wrap64; omega
    by_cases h1000 : us.getD q 0 = 1000
    ·
      have hg : ∀ j, (us.set q (us.getD q 0 + 1)).getD j 0 = if j = q then us.getD q 0 + 1 else us.getD j 0 := fun j => getD_set (by omega) _ _
      have key : ∀ d q (us : List Int), q + d = t → us.length = n → (∀ j, 0 ≤ us.getD j 0 ∧ us.getD j 0 ≤ 1000000) → (∀ j, q ≤ j → us.getD j 0 ≤ 1000) →
          ∃ us' : List Int, us'.length = n ∧ (∀ j, us'.getD j 0 = us.getD j 0 + if q ≤ j ∧ j < t then 1 else 0) ∧ ∀ r, Ev (fun k => rooms_used.l0 k us' xs (xs.length : Int) ((i + 1 : Nat) : Int)) r → Ev (fun k => rooms_used.l1 k us (q : Int) xs (xs.length : Int) (i : Int) (f : Int) (t : Int) p) r := by
        intro d
        induction d with
        | zero =>
          intro q us hq hus _ _
          obtain rfl : q = t := by omega
          refine ⟨us, hus, fun j => by rw [if_neg (by omega)]; omega, fun r h => Ev.step (fun k => ?_) h⟩
          rw [rooms_used.l1, if_neg (by omega), wrap_succ hil (by omega)]
        | succ d ih2 =>
          intro q us hq hus hb hb2
          have hbq := hb q
          have hbq2 := hb2 q (Nat.le_refl _)
          have ew : wrap64 (us.getD q 0 + 1) = us.getD q 0 + 1 := by unfold wrap64; omega
          have hg : ∀ j, (us.set q (us.getD q 0 + 1)).getD j 0 = if j = q then us.getD q 0 + 1 else us.getD j 0 := fun j => getD_set (by omega) _ _
          obtain ⟨us', a1, a2, a3⟩ := ih2 (q + 1) (us.set q (us.getD q 0 + 1)) (by omega) (by simpa using hus) (fun j => by rw [hg]; have := hb j; split <;> omega) (fun j hj => by rw [hg, if_neg (by omega)]; exact hb2 j (by omega))
          refine ⟨us', a1, fun j => ?_, fun r h => Ev.step (fun k => ?_) (a3 r h)⟩
          · rw [a2, hg]
            by_cases e : j = q
            · subst e; rw [if_pos rfl, if_neg (by omega), if_pos (by omega)]; omega
            · rw [if_neg e]
              by_cases e2 : q ≤ j ∧ j < t
              · rw [if_pos e2, if_pos (by omega)]
              · rw [if_neg e2, if_neg (by omega)]
          · rw [rooms_used.l1, if_pos (by omega), if_pos (by omega), if_pos (by omega), rdI, ew, Int.toNat_natCast, wrap_succ (n := 1001) (by omega) (by omega)]
      exact key (d + 1) q us hq hus (fun j => by have := hb j; omega) (fun j _ => (hb j).2)
    · have hg : ∀ j, (us.set q (us.getD q 0 + 1)).getD j 0 = if j = q then us.getD q 0 + 1 else us.getD j 0 := fun j => getD_set (by omega) _ _
      obtain ⟨us', a1, a2, a3⟩ := ih (q + 1) (us.set q (us.getD q 0 + 1)) (by omega) (by simpa using hus) (fun j => by rw [hg]; have := hb j; split <;> omega)
      refine ⟨us', a1, fun j => ?_, fun r h => Ev.step (fun k => ?_) (a3 r h)⟩
      · rw [a2, hg]
        by_cases e : j = q
        · subst e; rw [if_pos rfl, if_neg (by omega), if_pos (by omega)]; omega
        · rw [if_neg e]
          by_cases e2 : q ≤ j ∧ j < t
          · rw [if_pos e2, if_pos (by omega)]
          · rw [if_neg e2, if_neg (by omega)]
      · rw [rooms_used.l1, if_pos (by omega), if_pos (by omega), if_pos (by omega), rdI, ew, Int.toNat_natCast, wrap_succ (n := 1001) (by omega) (by omega)]
theorem used_l0 {xs : List S47} {n : Nat} (hn : n ≤ 1000) (hx : xs.length ≤ 1000) (hbk : ∀ x ∈ xs, 0 ≤ x.f0 ∧ x.f0 < x.f1 ∧ x.f1 ≤ n) : ∀ d i (us : List Int), i + d = xs.length → us.length = n → (∀ j, 0 ≤ us.getD j 0 ∧ us.getD j 0 ≤ i) →
    ∃ us' : List Int, us'.length = n ∧ (∀ j, us'.getD j 0 = us.getD j 0 + cntI (xs.drop i) j) ∧ Ev (fun k => rooms_used.l0 k us xs (xs.length : Int) (i : Int)) us' := by
  intro d
  induction d with
  | zero =>
    intro i us hi hus _
    obtain rfl : i = xs.length := by omega
    refine ⟨us, hus, fun j => by rw [List.drop_length]; simp [cntI], Ev.step (f := fun _ => some us) (fun k => ?_) (Ev.now _)⟩
    rw [rooms_used.l0, if_neg (by omega)]
  | succ d ih =>
    intro i us hi hus hb
    have hil : i < xs.length := by omega
    obtain ⟨b1, b2, b3⟩ := hbk (xs.getD i z47) (by rw [List.getD_eq_getElem?_getD, List.getElem?_eq_getElem hil]; exact List.getElem_mem hil)
    obtain ⟨us1, c1, c2, c3⟩ := used_l1 (f := (xs.getD i z47).f0.toNat) (t := (xs.getD i z47).f1.toNat) hil hn hx (by omega) (by omega) (xs.getD i z47).f2 ((xs.getD i z47).f1.toNat - (xs.getD i z47).f0.toNat) (xs.getD i z47).f0.toNat us (by omega) hus (fun j => by have := hb j; omega)
    obtain ⟨us', d1, d2, d3⟩ := ih (i + 1) us1 (by omega) c1 (fun j => by rw [c2]; have := hb j; split <;> omega)
    refine ⟨us', d1, fun j => ?_, Ev.step (fun k => ?_) (c3 us' d3)⟩
    · rw [d2, c2, drop_cons (z := z47) hil]
      simp only [cntI, List.map_cons, List.sum_cons]
      have : covI (xs.getD i z47) j = if (xs.getD i z47).f0.toNat ≤ j ∧ j < (xs.getD i z47).f1.toNat then 1 else 0 := by
        unfold covI
        by_cases h : (xs.getD i z47).f0 ≤ j ∧ (j : Int) < (xs.getD i z47).f1
        · rw [if_pos h, if_pos (by omega)]
        · rw [if_neg h, if_neg (by omega)]
      rw [this]
      omega
    · rw [rooms_used.l0, if_pos (by omega), if_pos (by omega), if_pos (by omega), rdT47, Int.toNat_of_nonneg b1, Int.toNat_of_nonneg (by omega)]
theorem used_ev {xs : List S47} {n : Nat} (hn : n ≤ 1000) (hx : xs.length ≤ 1000) (hbk : ∀ x ∈ xs, 0 ≤ x.f0 ∧ x.f0 < x.f1 ∧ x.f1 ≤ n) :
    ∃ us : List Int, us.length = n ∧ (∀ j, us.getD j 0 = cntI xs j) ∧ Ev (fun k => rooms_used.f k xs (n : Int)) us := by
  obtain ⟨us, h1, h2, h3⟩ := used_l0 hn hx hbk xs.length 0 (List.replicate n 0) (by omega) (by simp) (fun j => by simp only [List.getD_eq_getElem?_getD, List.getElem?_replicate]; split <;> simp)
  refine ⟨us, h1, fun j => ?_, Ev.congr (fun k => ?_) h3⟩
  · rw [h2, List.drop_zero]
    have : (List.replicate n (0 : Int)).getD j 0 = 0 := by simp only [List.getD_eq_getElem?_getD, List.getElem?_replicate]; split <;> rfl
    rw [this, Int.zero_add]
  · unfold rooms_used.f
    rw [if_pos (by omega), if_pos (by omega), Int.toNat_natCast]
    rfl
theorem cnt_lsum {l : List S47} (tk : List Int) (j : Nat) : cntI (tk.map (fun x => l.getD x.toNat z47)) j = lsum (fun i => covI (l.getD i z47) j) tk := by
  induction tk with
  | nil => rfl
  | cons x tk ih => simp only [cntI, List.map_cons, List.sum_cons, lsum] at ih ⊢; rw [ih]
theorem cov_inst {l : List S47} {rooms : List Int} (hg : A.Good l rooms) {i : Nat} (hi : i < l.length) (j : Nat) : covI (l.getD i z47) j = (inst l rooms).cov i j := by
  have hx := hg.from_ (l.getD i z47) (by rw [List.getD_eq_getElem?_getD, List.getElem?_eq_getElem hi]; exact List.getElem_mem hi)
  have e1 : (inst l rooms).f i = (l.getD i z47).f0.toNat := rfl
  have e2 : (inst l rooms).t i = (l.getD i z47).f1.toNat := rfl
  unfold covI Inst.cov
  split <;> split <;> omega
theorem asc_len {L : Nat} {tk : List Int} (h2 : Asc L tk) : tk.length ≤ L := by
  rcases Nat.lt_or_ge L tk.length with hlt | hge
  · exfalso
    have key : ∀ i, i < tk.length → (i : Int) ≤ tk.getD i 0 := by
      intro i
      induction i with
      | zero => intro hi; exact (pos_at h2 hi).1
      | succ i ih => intro hi; have := ih (by omega); have := asc_at h2 (show i < i + 1 by omega) hi; omega
    have := key L hlt
    have := (pos_at h2 hlt).2
    omega
  · exact hge
end Go.Proofs.Ytpjobcnfjpbaeaa.M

namespace Go.Proofs.Ytpjobcnfjpbaeaa.M
open Go.RowKit Go.Proofs.YtpjobcnfjpbaeaaW.PrintWords Go.Proofs.YtpjobcnfjpbaeaaW.PrintLast Go.Proofs.YtpjobcnfjpbaeaaW.PrintMore
open Go.Proofs.Ytpjobcnfjpbaeaa.PA Go.Proofs.Ytpjobcnfjpbaeaa.A
theorem best_right {l : List S47} {rooms : List Int} (hg : A.Good l rooms) : ∃ K tk pr v, (∀ k, K ≤ k → bestF k l rooms = some (tk, pr, v)) ∧ RightP l rooms tk pr ∧ (inst l rooms).Rev (ind tk) = v ∧ (inst l rooms).Opt v ∧ 0 ≤ v ∧ v ≤ 40000000 ∧ tk.length ≤ 40 := by
  obtain ⟨K, tk, pr, v, h1, h2, h3, h4, h5, h6, h7, h8, h9, h10⟩ := best_opt hg
  have := asc_len h2
  have := hg.many
  exact ⟨K, tk, pr, v, h1, ⟨h2, h5, h3, fun j hj => by have := h4 j hj; omega, h6.trans h7.symm⟩, h6, h8, h9, h10, by omega⟩
end Go.Proofs.Ytpjobcnfjpbaeaa.M

namespace Go.Proofs.Ytpjobcnfjpbaeaa.PA
open Go.RowKit Go.Proofs.YtpjobcnfjpbaeaaW.PrintWords Go.Proofs.YtpjobcnfjpbaeaaW.PrintLast Go.Proofs.YtpjobcnfjpbaeaaW.PrintMore
attribute [local go_sem] max2_int min2_int max_two min_two max_three min_three max_four min_four
set_option linter.unusedVariables false
set_option linter.unusedSimpArgs false
def turndownlaw08_mod.f (a0 : Int) (a1 : Int) : Option (Int) := if (IntKind.u64.wrap (a1)) = 0 then (none) else (some (wrap64 (Int.tmod (IntKind.u64.wrap (a0)) (IntKind.u64.wrap (a1)))))
set_option maxHeartbeats 8000000 in
set_option maxRecDepth 100000 in
theorem turndownlaw08_mod.calls (a0 : Int) (a1 : Int) (r : Int) (w : World) (h : turndownlaw08_mod.f a0 a1 = some r) :
    Calls Try.prog 26 #[.int .i64 a0, .int .i64 a1] w fun e w' => e = .returned (.int .i64 r) ∧ Drawn0 w w' := by
  have H : (if (IntKind.u64.wrap (a1)) = 0 then (none) else (some (wrap64 (Int.tmod (IntKind.u64.wrap (a0)) (IntKind.u64.wrap (a1)))))) = some r := h
  clear h
  by_cases c3 : (IntKind.u64.wrap (a1)) = 0
  · rw [if_pos c3] at H
    exact absurd H (by simp)
  · rw [if_neg c3] at H
    have c3b0 : ((IntKind.u64.wrap (a1)) == 0) = false := beq_eq_false_iff_ne.mpr c3
    have c3b1 : ((IntKind.u64.wrap (a1)) != 0) = true := bne_iff_ne.mpr c3
    obtain rfl := Option.some.inj H
    go_enter Try.func26, Try.ntmps26
    go_wp2
    go_ret
    exact ⟨by first | rfl | (simp; done) | (simp [*]; done), by repeat (first | exact Drawn0.refl _ | apply Drawn0.step)⟩
end Go.Proofs.Ytpjobcnfjpbaeaa.PA

namespace Go.Proofs.Ytpjobcnfjpbaeaa.A
open Go.RowKit Go.Proofs.YtpjobcnfjpbaeaaW.PrintWords Go.Proofs.YtpjobcnfjpbaeaaW.PrintLast Go.Proofs.YtpjobcnfjpbaeaaW.PrintMore
open Go.Proofs.Ytpjobcnfjpbaeaa.PA Go.Proofs.Ytpjobcnfjpbaeaa.M
theorem wrapI {x : Int} (h : -4611686018427387904 ≤ x ∧ x ≤ 4611686018427387904) : wrap64 x = x := by unfold wrap64; omega
def modV (x n : Int) : Int := wrap64 (Int.tmod (IntKind.u64.wrap x) (IntKind.u64.wrap n))
theorem modV_bd {x n : Int} (h1 : 1 ≤ n) (h2 : n ≤ 10000000) : 0 ≤ modV x n ∧ modV x n < n ∧ turndownlaw08_mod.f x n = some (modV x n) := by
  have e : IntKind.u64.wrap n = n := IntWalk.u64_in n (by omega)
  have e2 : IntKind.u64.wrap x = x % 18446744073709551616 := IntKind.wrap_u64 x
  have h0 : 0 ≤ x % 18446744073709551616 := Int.emod_nonneg _ (by omega)
  have h3 : Int.tmod (x % 18446744073709551616) n = (x % 18446744073709551616) % n := Int.tmod_eq_emod_of_nonneg h0
  have h4 : 0 ≤ (x % 18446744073709551616) % n := Int.emod_nonneg _ (by omega)
  have h5 : (x % 18446744073709551616) % n < n := Int.emod_lt_of_pos _ (by omega)
  have h6 : modV x n = (x % 18446744073709551616) % n := by
    unfold modV
    rw [e, e2, h3]
    exact wrapI (by omega)
  refine ⟨by omega, by omega, ?_⟩
  unfold turndownlaw08_mod.f
  rw [e, if_neg (by omega)]
  unfold modV
  rw [e]
theorem mod_c (x n : Int) (w : World) (h1 : 1 ≤ n) (h2 : n ≤ 10000000) : Calls Try.prog 26 #[.int .i64 x, .int .i64 n] w fun e w' => e = .returned (.int .i64 (modV x n)) ∧ ∃ q, w' = w.drewN q :=
  (turndownlaw08_mod.calls x n _ w (modV_bd h1 h2).2.2).mono fun _ _ h => ⟨h.1, h.2.out⟩
def tameF (x : S47) (n : Int) : Int := if x.f0 < 0 ∨ n < x.f1 ∨ x.f1 ≤ x.f0 then modV x.f0 n else x.f0
def tameT (x : S47) (n : Int) : Int := if x.f0 < 0 ∨ n < x.f1 ∨ x.f1 ≤ x.f0 then modV x.f0 n + 1 + modV x.f1 (n - modV x.f0 n) else x.f1
def tameP (x : S47) : Int := if x.f2 < 0 ∨ 1000000 < x.f2 then modV x.f2 1000001 else x.f2
def tame1 (n : Int) (x : S47) : S47 := ⟨tameF x n, tameT x n, tameP x⟩
theorem tame1_ok {n : Int} (h1 : 1 ≤ n) (h2 : n ≤ 1000) (x : S47) : 0 ≤ (tame1 n x).f0 ∧ (tame1 n x).f0 < (tame1 n x).f1 ∧ (tame1 n x).f1 ≤ n ∧ 0 ≤ (tame1 n x).f2 ∧ (tame1 n x).f2 ≤ 1000000 := by
  have a := modV_bd (x := x.f0) h1 (by omega)
  have b := modV_bd (x := x.f1) (n := n - modV x.f0 n) (by omega) (by omega)
  have c := modV_bd (x := x.f2) (n := 1000001) (by omega) (by omega)
  have a1 := a.1
  have a2 := a.2.1
  have b1 := b.1
  have b2 := b.2.1
  have c1 := c.1
  have c2 := c.2.1
  simp only [tame1, tameF, tameT, tameP]
  clear a b c
  split <;> split <;> omega
set_option maxRecDepth 100000 in
set_option maxHeartbeats 6400000 in
theorem tame_c (A : Option Addr) (c : Nat) (l : List S47) (n most : Nat) (w : World) (hr : Kd.C k47 w A l.length l) (hc : l.length ≤ c) (hn : 1 ≤ n ∧ n ≤ 1000) (hm : most ≤ 1000) :
    Calls Try.prog 24 #[.slice A l.length c, .int .i64 (n : Int), .int .i64 (most : Int)] w fun e w' => ∃ v, e = .returned v ∧ Kd.R k47 47 w' w.heap.size (fun _ => True) v ((l.take most).map (tame1 n)) ∧ Below w.heap.size w w' := by
  have hl : l.length ≤ 9223372036854775807 := hr.2.1
  have HR := Lib.hid hr
  obtain ⟨hn1, hn2⟩ := hn
  obtain ⟨M, hM⟩ : ∃ M, M = l.map (tame1 n) := ⟨_, rfl⟩
  have hfin : (l.take most).map (tame1 n) = M.take most := by rw [hM, List.map_take]
  rw [hfin]
  have hML : M.length = l.length := by rw [hM, List.length_map]
  have HM := Lib.hid hM
  have HML := Lib.hid hML
  clear hr hM hfin hML
  go_enter Try.func24, Try.ntmps24
  go_wp2_with fail
  go_loopw [7, 8] (fun v7 v8 wr => ∃ (q : Nat), v8 = .int .i64 (q : Int) ∧ q ≤ l.length ∧ q ≤ most ∧ Hid (Kd.R k47 47 wr w.heap.size (fun _ => True) v7 (M.take q)) ∧ Below w.heap.size w wr) (fun _ v8 _ => most - (intOf v8).toNat)
  case atStart => exact ⟨0, rfl, Nat.zero_le _, Nat.zero_le _, Kd.R_nil _ _ _ _ _, Below.refl _ _⟩
  case round =>
    obtain ⟨q, rfl, hq, hqm, HO, hB⟩ := hrel
    by_cases hlt : q < l.length
    · by_cases hlm : q < most
      · have hlt' : (q : Int) < l.length := by omega
        have hlm' : (q : Int) < most := by omega
        obtain ⟨ad, x, eA, HX, x0, x1, x2⟩ := at_bk HR.out hB q hlt
        cases eA
        have hnext : M.take (q + 1) = M.take q ++ [tame1 n x] := by
          rw [List.take_add_one, HM.out, List.getElem?_map, HX.out]; simp
        have hlen : (M.take q).length = q := by rw [List.length_take, HML.out]; omega
        obtain ⟨f, t, p⟩ := x
        simp only at x0 x1 x2
        have HNX := Lib.hid hnext
        have HLEN := Lib.hid hlen
        have hsw := hB.size
        obtain ⟨W0, hW0⟩ : ∃ W0, W0 = wr.alloc (Obj.cells #[Value.int .i64 f, Value.int .i64 t, Value.int .i64 p] 47) := ⟨_, rfl⟩
        have hBW0 : Below wr.heap.size wr W0 := by rw [hW0]; exact (Below.refl _ _).alloc (Nat.le_refl _) _
        have hg0 : W0.heap[wr.heap.size]? = some (.cells #[Value.int .i64 f, Value.int .i64 t, Value.int .i64 p] 47 (0, 0)) := by rw [hW0]; exact heap_alloc_new _ _
        have hs0 : W0.heap.size = wr.heap.size + 1 := by rw [hW0]; simp
        have HW0 := Lib.hid hW0
        have HBW0 := Lib.hid hBW0
        have HG0 := Lib.hid hg0
        clear hnext hlen hW0 hBW0 hg0
        by_cases k1 : f < 0
        · have ha := modV_bd (x := f) (n := n) (by omega) (by omega)
          have ha1 := ha.1
          have ha2 := ha.2.1
          have hb0 := modV_bd (x := t) (n := (n : Int) - modV f n) (by omega) (by omega)
          have hb1 := hb0.1
          have hb2 := hb0.2.1
          have HMF := Lib.hid (fun w => mod_c f n w (by omega) (by omega))
          have HMT := Lib.hid (fun w => mod_c t ((n : Int) - modV f n) w (by omega) (by omega))
          obtain ⟨mf, hmf⟩ : ∃ mf, mf = modV f n := ⟨_, rfl⟩
          rw [← hmf] at HMF HMT ha1 ha2 hb0 hb1 hb2
          obtain ⟨mt, hmt⟩ : ∃ mt, mt = modV t ((n : Int) - mf) := ⟨_, rfl⟩
          rw [← hmt] at HMT hb1 hb2
          have HMFE := Lib.hid hmf
          have HMTE := Lib.hid hmt
          clear ha hb0 hmf hmt
          go_wp2_with fail
          rw [← HW0.out]
          refine (HMF.out _).mono ?_
          rintro e w3 ⟨rfl, n3, rfl⟩
          have z00 : W0.cell? ⟨wr.heap.size, 0, none⟩ = some (.int .i64 (f)) := by simp [World.cell?, HG0.out]
          have z10 : W0.cell? ⟨wr.heap.size, 1, none⟩ = some (.int .i64 (t)) := by simp [World.cell?, HG0.out]
          have z20 : W0.cell? ⟨wr.heap.size, 2, none⟩ = some (.int .i64 (p)) := by simp [World.cell?, HG0.out]
          have zf0 : ∀ k, W0.frozen? ⟨wr.heap.size, k, none⟩ = false := fun k => by simp [World.frozen?, HG0.out]
          obtain ⟨W1, hW1⟩ : ∃ W1, W1 = (W0.drewN n3).setCell ⟨wr.heap.size, 0, none⟩ (.int .i64 mf) := ⟨_, rfl⟩
          have HG1 : Hid (W1.heap[wr.heap.size]? = some (.cells #[Value.int .i64 mf, Value.int .i64 t, Value.int .i64 p] 47 (0, 0))) := Lib.hid (by rw [hW1]; have := HG0.out; simp [World.setCell, Array.getElem?_modify, World.drewN, this])
          have HB1 : Hid (Below wr.heap.size wr W1) := Lib.hid (by rw [hW1]; exact (HBW0.out.trans ((pw_below_drewN (Below.refl _ _) n3).mono (by show wr.heap.size ≤ W0.heap.size; omega))).setCell (p := ⟨wr.heap.size, 0, none⟩) (Nat.le_refl _) _)
          have hs1 : W1.heap.size = wr.heap.size + 1 := by rw [hW1]; simp [World.setCell, World.drewN, hs0]
          have HW1 := Lib.hid hW1
          clear hW1
          go_wp2_with fail
          rw [← HW1.out]
          clear z00 z10 z20 zf0
          have CE : Hid (∀ w', R.Keeps [] W1 w' → w'.cell? ⟨wr.heap.size, 0, none⟩ = some (.int .i64 mf) ∧ w'.cell? ⟨wr.heap.size, 1, none⟩ = some (.int .i64 t)) := Lib.hid (fun w' h =>
            ⟨h.cell (a := ⟨wr.heap.size, 0, none⟩) (by simp [World.cell?, HG1.out]) (by simp), h.cell (a := ⟨wr.heap.size, 1, none⟩) (by simp [World.cell?, HG1.out]) (by simp)⟩)
          have hk1 : mf ≤ 1000 := by omega
          have hk2 : mt ≤ 1000 := by omega
          have hk3 : (n : Int) ≤ 1000 := by omega
          have hi3 : -4611686018427387904 ≤ mf + 1 + mt ∧ mf + 1 + mt ≤ 4611686018427387904 := by omega
          have hi2 : -4611686018427387904 ≤ (n : Int) - mf ∧ (n : Int) - mf ≤ 4611686018427387904 := by omega
          have hi1 : -4611686018427387904 ≤ mf + 1 ∧ mf + 1 ≤ 4611686018427387904 := by omega
          have e1 : IntKind.i64.wrap (mf + 1) = mf + 1 := by rw [i64_w]; exact wrapI hi1
          have e2 : IntKind.i64.wrap ((n : Int) - mf) = (n : Int) - mf := by rw [i64_w]; exact wrapI hi2
          have e3 : IntKind.i64.wrap (mf + 1 + mt) = mf + 1 + mt := by rw [i64_w]; exact wrapI hi3
          clear hi1 hi2 hi3
          apply R.wp_region_text [0, 1, 2, 3, 4, 5, 6, 7, 8] [9, 10, 11, 12] 12 (R.Keeps [] W1)
          case hm => kernel_rfl
          case hB => kernel_rfl
          case hd => rfl
          case hQ => exact fun _ _ _ _ _ h => h
          case hS => exact (R.Keeps.refl _ _).drew
          case hF =>
            intro w' hS
            obtain ⟨c1, c2⟩ := CE.out w' hS
            have HS := Lib.hid hS
            clear hS
            simp only [R.pickC, List.filterMap_cons, List.getElem?_toArray, List.getElem?_cons_zero, List.getElem?_cons_succ, List.filterMap_nil]
            iterate 9 ((with_reducible refine R.wpStill_plain rfl (fun K hK => ?_)); go_simp; with_reducible refine hK _ ?_; clear hK K)
            exact wpStill_nil rfl
          case hC =>
            simp only [R.chainOf, List.getElem?_toArray, List.getElem?_cons_zero, List.getElem?_cons_succ, Nat.reduceBNe, Bool.and_true, Bool.and_false, Bool.false_and]
            refine R.wpSeq_same (fun K hK => ?_)
            go_simp
            refine (HMT.out _).mono ?_
            rintro e w4 ⟨rfl, n4, rfl⟩
            have hk4 : R.Keeps [] W1 (W1.drewN (1 + n4)) := R.Keeps.of_below [] (pw_below_drewN (Below.refl _ _) (1 + n4))
            refine hK _ _ (((R.Keeps.refl _ _).drew).below (pw_below_drewN (Below.refl _ _) n4)) ?_
            clear hK K
            refine R.wpSeq_same (fun K hK => ?_)
            go_simp
            with_reducible refine hK _ _ hk4 ?_
            clear hK K
            refine R.wpSeq_same (fun K hK => ?_)
            go_simp
            with_reducible refine hK _ _ hk4 ?_
            clear hK K
            clear e1 e2 e3
            refine R.wpSeq_tail _ rfl ?_
            simp only [List.map_cons, List.map_nil]
            have HG4 : Hid ((W1.drewN (1 + n4)).heap[wr.heap.size]? = some (.cells #[Value.int .i64 mf, Value.int .i64 t, Value.int .i64 p] 47 (0, 0))) := Lib.hid (by have := HG1.out; simpa [World.drewN, World.drew] using this)
            have HK4 := Lib.hid hk4
            clear hk4
            have z04 : (W1.drewN (1 + n4)).cell? ⟨wr.heap.size, 0, none⟩ = some (.int .i64 (mf)) := by simp [World.cell?, HG1.out]
            have z14 : (W1.drewN (1 + n4)).cell? ⟨wr.heap.size, 1, none⟩ = some (.int .i64 (t)) := by simp [World.cell?, HG1.out]
            have z24 : (W1.drewN (1 + n4)).cell? ⟨wr.heap.size, 2, none⟩ = some (.int .i64 (p)) := by simp [World.cell?, HG1.out]
            have zf4 : ∀ k, (W1.drewN (1 + n4)).frozen? ⟨wr.heap.size, k, none⟩ = false := fun k => by simp [World.frozen?, HG1.out]
            obtain ⟨W2, hW2⟩ : ∃ W2, W2 = (W1.drewN (1 + n4)).setCell ⟨wr.heap.size, 1, none⟩ (.int .i64 (mf + 1 + mt)) := ⟨_, rfl⟩
            have HG2 : Hid (W2.heap[wr.heap.size]? = some (.cells #[Value.int .i64 mf, Value.int .i64 (mf + 1 + mt), Value.int .i64 p] 47 (0, 0))) := Lib.hid (by rw [hW2]; have := HG1.out; simp [World.setCell, Array.getElem?_modify, this])
            have HB2 : Hid (Below wr.heap.size wr W2) := Lib.hid (by rw [hW2]; exact (HB1.out.trans (HK4.out.to_below (by omega) (fun k hk => by simp at hk))).setCell (p := ⟨wr.heap.size, 1, none⟩) (Nat.le_refl _) _)
            have hs2 : W2.heap.size = wr.heap.size + 1 := by rw [hW2]; simpa [World.setCell, World.drewN, World.drew] using hs1
            have HW2 := Lib.hid hW2
            clear hW2
            go_upto_region 9 with fail
            rw [← HW2.out]
            clear z04 z14 z24 zf4
            have hft : tameF ⟨f, t, p⟩ n = mf := by unfold tameF; rw [if_pos (Or.inl k1)]; exact HMFE.out.symm
            have htt : tameT ⟨f, t, p⟩ n = mf + 1 + mt := by unfold tameT; rw [if_pos (Or.inl k1), ← HMFE.out, ← HMTE.out]
            have HFT := Lib.hid hft
            have HTT := Lib.hid htt
            clear hft htt
            by_cases k5 : p < 0
            · have hp0 := modV_bd (x := p) (n := 1000001) (by omega) (by omega)
              have hpp : tameP ⟨f, t, p⟩ = modV p 1000001 := by unfold tameP; rw [if_pos (Or.inl k5)]
              have HPP := Lib.hid hpp
              have HMP := Lib.hid (fun w => mod_c p 1000001 w (by omega) (by omega))
              clear hp0 hpp
              have z02 : W2.cell? ⟨wr.heap.size, 0, none⟩ = some (.int .i64 (mf)) := by simp [World.cell?, HG2.out]
              have z12 : W2.cell? ⟨wr.heap.size, 1, none⟩ = some (.int .i64 (mf + 1 + mt)) := by simp [World.cell?, HG2.out]
              have z22 : W2.cell? ⟨wr.heap.size, 2, none⟩ = some (.int .i64 (p)) := by simp [World.cell?, HG2.out]
              have zf2 : ∀ k, W2.frozen? ⟨wr.heap.size, k, none⟩ = false := fun k => by simp [World.frozen?, HG2.out]
              go_wp2_with fail
              refine (HMP.out _).mono ?_
              rintro e w5 ⟨rfl, n5, rfl⟩
              go_upto_region 11 with fail
              obtain ⟨W3, hW3⟩ : ∃ W3, W3 = (W2.drewN n5).setCell ⟨wr.heap.size, 2, none⟩ (.int .i64 (modV p 1000001)) := ⟨_, rfl⟩
              rw [← hW3]
              have HG3 : Hid (W3.heap[wr.heap.size]? = some (.cells #[Value.int .i64 (mf), Value.int .i64 (mf + 1 + mt), Value.int .i64 (modV p 1000001)] 47 (0, 0))) := Lib.hid (by rw [hW3]; have := HG2.out; simp [World.setCell, Array.getElem?_modify, this])
              have HB3 : Hid (Below wr.heap.size wr W3) := Lib.hid (by rw [hW3]; exact (HB2.out.trans ((pw_below_drewN (Below.refl _ _) n5).mono (by show wr.heap.size ≤ W2.heap.size; omega))).setCell (p := ⟨wr.heap.size, 2, none⟩) (Nat.le_refl _) _)
              clear z02 z12 z22 zf2
              clear hW3
              have z03 : W3.cell? ⟨wr.heap.size, 0, none⟩ = some (.int .i64 (mf)) := by simp [World.cell?, HG3.out]
              have z13 : W3.cell? ⟨wr.heap.size, 1, none⟩ = some (.int .i64 (mf + 1 + mt)) := by simp [World.cell?, HG3.out]
              have z23 : W3.cell? ⟨wr.heap.size, 2, none⟩ = some (.int .i64 (modV p 1000001)) := by simp [World.cell?, HG3.out]
              have zf3 : ∀ k, W3.frozen? ⟨wr.heap.size, k, none⟩ = false := fun k => by simp [World.frozen?, HG3.out]
              have hy : tame1 (n : Int) ⟨f, t, p⟩ = ⟨mf, mf + 1 + mt, modV p 1000001⟩ := by
                show (⟨tameF ⟨f, t, p⟩ n, tameT ⟨f, t, p⟩ n, tameP ⟨f, t, p⟩⟩ : S47) = _
                rw [HFT.out, HTT.out, HPP.out]
              have HY := Lib.hid hy
              have hsW := HB3.out.size
              have hOW := Lib.hid (Kd.R_below HO.out HB3.out)
              clear hy
              try clear hs0
              try clear hs1
              try clear hs2
              go_wp2_with (at_builtin; refine Kd.R_append k47 (w0 := w) w.heap.size rfl (.tmp 70) (.tmp 72) 22 47 (.agg #[(.int .i64 0), (.int .i64 0), (.int .i64 0)]) 24 rfl Try.underlying22 info47 rfl (by decide) (by omega) u7 (M.take q) (⟨mf, mf + 1 + mt, modV p 1000001⟩ : S47) [.int .i64 (mf), .int .i64 (mf + 1 + mt), .int .i64 (modV p 1000001)] (fun _ => True) (fun _ => False) rfl rfl ?aP (fun _ hk => hk.elim) (fun _ _ => trivial) ?aO ?aB ?aS ?aL ?_)
              case aP => exact k47_mkM _ _ _ (⟨mf, mf + 1 + mt, modV p 1000001⟩ : S47)
              case aO => exact hOW.out
              case aB => exact hB.trans (HB3.out.mono (by omega))
              case aS => omega
              case aL => have h9 := HLEN.out; (try simp only [List.length_take] at h9 ⊢); omega
              intro v1 w9 ho hb hg hat
              have HO9 := Lib.hid ho
              clear ho hg hat
              clear z03 z13 z23 zf3
              go_wp2_with fail
              go_roundw
              case rel => exact ⟨q + 1, by go_num, by omega, by omega, (by rw [HNX.out, HY.out]; exact HO9.out), hb⟩
              case measure => simp [intOf]; omega
            · by_cases k6 : 1000000 < p
              · have hp0 := modV_bd (x := p) (n := 1000001) (by omega) (by omega)
                have hpp : tameP ⟨f, t, p⟩ = modV p 1000001 := by unfold tameP; rw [if_pos (Or.inr k6)]
                have HPP := Lib.hid hpp
                have HMP := Lib.hid (fun w => mod_c p 1000001 w (by omega) (by omega))
                clear hp0 hpp
                have z02 : W2.cell? ⟨wr.heap.size, 0, none⟩ = some (.int .i64 (mf)) := by simp [World.cell?, HG2.out]
                have z12 : W2.cell? ⟨wr.heap.size, 1, none⟩ = some (.int .i64 (mf + 1 + mt)) := by simp [World.cell?, HG2.out]
                have z22 : W2.cell? ⟨wr.heap.size, 2, none⟩ = some (.int .i64 (p)) := by simp [World.cell?, HG2.out]
                have zf2 : ∀ k, W2.frozen? ⟨wr.heap.size, k, none⟩ = false := fun k => by simp [World.frozen?, HG2.out]
                go_wp2_with fail
                refine (HMP.out _).mono ?_
                rintro e w5 ⟨rfl, n5, rfl⟩
                go_upto_region 11 with fail
                obtain ⟨W3, hW3⟩ : ∃ W3, W3 = (W2.drewN n5).setCell ⟨wr.heap.size, 2, none⟩ (.int .i64 (modV p 1000001)) := ⟨_, rfl⟩
                rw [← hW3]
                have HG3 : Hid (W3.heap[wr.heap.size]? = some (.cells #[Value.int .i64 (mf), Value.int .i64 (mf + 1 + mt), Value.int .i64 (modV p 1000001)] 47 (0, 0))) := Lib.hid (by rw [hW3]; have := HG2.out; simp [World.setCell, Array.getElem?_modify, this])
                have HB3 : Hid (Below wr.heap.size wr W3) := Lib.hid (by rw [hW3]; exact (HB2.out.trans ((pw_below_drewN (Below.refl _ _) n5).mono (by show wr.heap.size ≤ W2.heap.size; omega))).setCell (p := ⟨wr.heap.size, 2, none⟩) (Nat.le_refl _) _)
                clear z02 z12 z22 zf2
                clear hW3
                have z03 : W3.cell? ⟨wr.heap.size, 0, none⟩ = some (.int .i64 (mf)) := by simp [World.cell?, HG3.out]
                have z13 : W3.cell? ⟨wr.heap.size, 1, none⟩ = some (.int .i64 (mf + 1 + mt)) := by simp [World.cell?, HG3.out]
                have z23 : W3.cell? ⟨wr.heap.size, 2, none⟩ = some (.int .i64 (modV p 1000001)) := by simp [World.cell?, HG3.out]
                have zf3 : ∀ k, W3.frozen? ⟨wr.heap.size, k, none⟩ = false := fun k => by simp [World.frozen?, HG3.out]
                have hy : tame1 (n : Int) ⟨f, t, p⟩ = ⟨mf, mf + 1 + mt, modV p 1000001⟩ := by
                  show (⟨tameF ⟨f, t, p⟩ n, tameT ⟨f, t, p⟩ n, tameP ⟨f, t, p⟩⟩ : S47) = _
                  rw [HFT.out, HTT.out, HPP.out]
                have HY := Lib.hid hy
                have hsW := HB3.out.size
                have hOW := Lib.hid (Kd.R_below HO.out HB3.out)
                clear hy
                try clear hs0
                try clear hs1
                try clear hs2
                go_wp2_with (at_builtin; refine Kd.R_append k47 (w0 := w) w.heap.size rfl (.tmp 70) (.tmp 72) 22 47 (.agg #[(.int .i64 0), (.int .i64 0), (.int .i64 0)]) 24 rfl Try.underlying22 info47 rfl (by decide) (by omega) u7 (M.take q) (⟨mf, mf + 1 + mt, modV p 1000001⟩ : S47) [.int .i64 (mf), .int .i64 (mf + 1 + mt), .int .i64 (modV p 1000001)] (fun _ => True) (fun _ => False) rfl rfl ?aP (fun _ hk => hk.elim) (fun _ _ => trivial) ?aO ?aB ?aS ?aL ?_)
                case aP => exact k47_mkM _ _ _ (⟨mf, mf + 1 + mt, modV p 1000001⟩ : S47)
                case aO => exact hOW.out
                case aB => exact hB.trans (HB3.out.mono (by omega))
                case aS => omega
                case aL => have h9 := HLEN.out; (try simp only [List.length_take] at h9 ⊢); omega
                intro v1 w9 ho hb hg hat
                have HO9 := Lib.hid ho
                clear ho hg hat
                clear z03 z13 z23 zf3
                go_wp2_with fail
                go_roundw
                case rel => exact ⟨q + 1, by go_num, by omega, by omega, (by rw [HNX.out, HY.out]; exact HO9.out), hb⟩
                case measure => simp [intOf]; omega
              · have hpp : tameP ⟨f, t, p⟩ = p := by unfold tameP; exact if_neg (show ¬ (p < 0 ∨ 1000000 < p) by omega)
                have HPP := Lib.hid hpp
                clear hpp
                have z02 : W2.cell? ⟨wr.heap.size, 0, none⟩ = some (.int .i64 (mf)) := by simp [World.cell?, HG2.out]
                have z12 : W2.cell? ⟨wr.heap.size, 1, none⟩ = some (.int .i64 (mf + 1 + mt)) := by simp [World.cell?, HG2.out]
                have z22 : W2.cell? ⟨wr.heap.size, 2, none⟩ = some (.int .i64 (p)) := by simp [World.cell?, HG2.out]
                have zf2 : ∀ k, W2.frozen? ⟨wr.heap.size, k, none⟩ = false := fun k => by simp [World.frozen?, HG2.out]
                go_upto_region 11 with fail
                clear z02 z12 z22 zf2
                have z02 : W2.cell? ⟨wr.heap.size, 0, none⟩ = some (.int .i64 (mf)) := by simp [World.cell?, HG2.out]
                have z12 : W2.cell? ⟨wr.heap.size, 1, none⟩ = some (.int .i64 (mf + 1 + mt)) := by simp [World.cell?, HG2.out]
                have z22 : W2.cell? ⟨wr.heap.size, 2, none⟩ = some (.int .i64 (p)) := by simp [World.cell?, HG2.out]
                have zf2 : ∀ k, W2.frozen? ⟨wr.heap.size, k, none⟩ = false := fun k => by simp [World.frozen?, HG2.out]
                have hy : tame1 (n : Int) ⟨f, t, p⟩ = ⟨mf, mf + 1 + mt, p⟩ := by
                  show (⟨tameF ⟨f, t, p⟩ n, tameT ⟨f, t, p⟩ n, tameP ⟨f, t, p⟩⟩ : S47) = _
                  rw [HFT.out, HTT.out, HPP.out]
                have HY := Lib.hid hy
                have hsW := HB2.out.size
                have hOW := Lib.hid (Kd.R_below HO.out HB2.out)
                clear hy
                try clear hs0
                try clear hs1
                try clear hs2
                go_wp2_with (at_builtin; refine Kd.R_append k47 (w0 := w) w.heap.size rfl (.tmp 70) (.tmp 72) 22 47 (.agg #[(.int .i64 0), (.int .i64 0), (.int .i64 0)]) 24 rfl Try.underlying22 info47 rfl (by decide) (by omega) u7 (M.take q) (⟨mf, mf + 1 + mt, p⟩ : S47) [.int .i64 (mf), .int .i64 (mf + 1 + mt), .int .i64 (p)] (fun _ => True) (fun _ => False) rfl rfl ?aP (fun _ hk => hk.elim) (fun _ _ => trivial) ?aO ?aB ?aS ?aL ?_)
                case aP => exact k47_mkM _ _ _ (⟨mf, mf + 1 + mt, p⟩ : S47)
                case aO => exact hOW.out
                case aB => exact hB.trans (HB2.out.mono (by omega))
                case aS => omega
                case aL => have h9 := HLEN.out; (try simp only [List.length_take] at h9 ⊢); omega
                intro v1 w9 ho hb hg hat
                have HO9 := Lib.hid ho
                clear ho hg hat
                clear z02 z12 z22 zf2
                go_wp2_with fail
                go_roundw
                case rel => exact ⟨q + 1, by go_num, by omega, by omega, (by rw [HNX.out, HY.out]; exact HO9.out), hb⟩
                case measure => simp [intOf]; omega
        · by_cases k2 : (n : Int) < t
          · have ha := modV_bd (x := f) (n := n) (by omega) (by omega)
            have ha1 := ha.1
            have ha2 := ha.2.1
            have hb0 := modV_bd (x := t) (n := (n : Int) - modV f n) (by omega) (by omega)
            have hb1 := hb0.1
            have hb2 := hb0.2.1
            have HMF := Lib.hid (fun w => mod_c f n w (by omega) (by omega))
            have HMT := Lib.hid (fun w => mod_c t ((n : Int) - modV f n) w (by omega) (by omega))
            obtain ⟨mf, hmf⟩ : ∃ mf, mf = modV f n := ⟨_, rfl⟩
            rw [← hmf] at HMF HMT ha1 ha2 hb0 hb1 hb2
            obtain ⟨mt, hmt⟩ : ∃ mt, mt = modV t ((n : Int) - mf) := ⟨_, rfl⟩
            rw [← hmt] at HMT hb1 hb2
            have HMFE := Lib.hid hmf
            have HMTE := Lib.hid hmt
            clear ha hb0 hmf hmt
            go_wp2_with fail
            rw [← HW0.out]
            refine (HMF.out _).mono ?_
            rintro e w3 ⟨rfl, n3, rfl⟩
            have z00 : W0.cell? ⟨wr.heap.size, 0, none⟩ = some (.int .i64 (f)) := by simp [World.cell?, HG0.out]
            have z10 : W0.cell? ⟨wr.heap.size, 1, none⟩ = some (.int .i64 (t)) := by simp [World.cell?, HG0.out]
            have z20 : W0.cell? ⟨wr.heap.size, 2, none⟩ = some (.int .i64 (p)) := by simp [World.cell?, HG0.out]
            have zf0 : ∀ k, W0.frozen? ⟨wr.heap.size, k, none⟩ = false := fun k => by simp [World.frozen?, HG0.out]
            obtain ⟨W1, hW1⟩ : ∃ W1, W1 = (W0.drewN n3).setCell ⟨wr.heap.size, 0, none⟩ (.int .i64 mf) := ⟨_, rfl⟩
            have HG1 : Hid (W1.heap[wr.heap.size]? = some (.cells #[Value.int .i64 mf, Value.int .i64 t, Value.int .i64 p] 47 (0, 0))) := Lib.hid (by rw [hW1]; have := HG0.out; simp [World.setCell, Array.getElem?_modify, World.drewN, this])
            have HB1 : Hid (Below wr.heap.size wr W1) := Lib.hid (by rw [hW1]; exact (HBW0.out.trans ((pw_below_drewN (Below.refl _ _) n3).mono (by show wr.heap.size ≤ W0.heap.size; omega))).setCell (p := ⟨wr.heap.size, 0, none⟩) (Nat.le_refl _) _)
            have hs1 : W1.heap.size = wr.heap.size + 1 := by rw [hW1]; simp [World.setCell, World.drewN, hs0]
            have HW1 := Lib.hid hW1
            clear hW1
            go_wp2_with fail
            rw [← HW1.out]
            clear z00 z10 z20 zf0
            have CE : Hid (∀ w', R.Keeps [] W1 w' → w'.cell? ⟨wr.heap.size, 0, none⟩ = some (.int .i64 mf) ∧ w'.cell? ⟨wr.heap.size, 1, none⟩ = some (.int .i64 t)) := Lib.hid (fun w' h =>
              ⟨h.cell (a := ⟨wr.heap.size, 0, none⟩) (by simp [World.cell?, HG1.out]) (by simp), h.cell (a := ⟨wr.heap.size, 1, none⟩) (by simp [World.cell?, HG1.out]) (by simp)⟩)
            have hk1 : mf ≤ 1000 := by omega
            have hk2 : mt ≤ 1000 := by omega
            have hk3 : (n : Int) ≤ 1000 := by omega
            have hi3 : -4611686018427387904 ≤ mf + 1 + mt ∧ mf + 1 + mt ≤ 4611686018427387904 := by omega
            have hi2 : -4611686018427387904 ≤ (n : Int) - mf ∧ (n : Int) - mf ≤ 4611686018427387904 := by omega
            have hi1 : -4611686018427387904 ≤ mf + 1 ∧ mf + 1 ≤ 4611686018427387904 := by omega
            have e1 : IntKind.i64.wrap (mf + 1) = mf + 1 := by rw [i64_w]; exact wrapI hi1
            have e2 : IntKind.i64.wrap ((n : Int) - mf) = (n : Int) - mf := by rw [i64_w]; exact wrapI hi2
            have e3 : IntKind.i64.wrap (mf + 1 + mt) = mf + 1 + mt := by rw [i64_w]; exact wrapI hi3
            clear hi1 hi2 hi3
            apply R.wp_region_text [0, 1, 2, 3, 4, 5, 6, 7, 8] [9, 10, 11, 12] 12 (R.Keeps [] W1)
            case hm => kernel_rfl
            case hB => kernel_rfl
            case hd => rfl
            case hQ => exact fun _ _ _ _ _ h => h
            case hS => exact (R.Keeps.refl _ _).drew
            case hF =>
              intro w' hS
              obtain ⟨c1, c2⟩ := CE.out w' hS
              have HS := Lib.hid hS
              clear hS
              simp only [R.pickC, List.filterMap_cons, List.getElem?_toArray, List.getElem?_cons_zero, List.getElem?_cons_succ, List.filterMap_nil]
              iterate 9 ((with_reducible refine R.wpStill_plain rfl (fun K hK => ?_)); go_simp; with_reducible refine hK _ ?_; clear hK K)
              exact wpStill_nil rfl
            case hC =>
              simp only [R.chainOf, List.getElem?_toArray, List.getElem?_cons_zero, List.getElem?_cons_succ, Nat.reduceBNe, Bool.and_true, Bool.and_false, Bool.false_and]
              refine R.wpSeq_same (fun K hK => ?_)
              go_simp
              refine (HMT.out _).mono ?_
              rintro e w4 ⟨rfl, n4, rfl⟩
              have hk4 : R.Keeps [] W1 (W1.drewN (1 + n4)) := R.Keeps.of_below [] (pw_below_drewN (Below.refl _ _) (1 + n4))
              refine hK _ _ (((R.Keeps.refl _ _).drew).below (pw_below_drewN (Below.refl _ _) n4)) ?_
              clear hK K
              refine R.wpSeq_same (fun K hK => ?_)
              go_simp
              with_reducible refine hK _ _ hk4 ?_
              clear hK K
              refine R.wpSeq_same (fun K hK => ?_)
              go_simp
              with_reducible refine hK _ _ hk4 ?_
              clear hK K
              clear e1 e2 e3
              refine R.wpSeq_tail _ rfl ?_
              simp only [List.map_cons, List.map_nil]
              have HG4 : Hid ((W1.drewN (1 + n4)).heap[wr.heap.size]? = some (.cells #[Value.int .i64 mf, Value.int .i64 t, Value.int .i64 p] 47 (0, 0))) := Lib.hid (by have := HG1.out; simpa [World.drewN, World.drew] using this)
              have HK4 := Lib.hid hk4
              clear hk4
              have z04 : (W1.drewN (1 + n4)).cell? ⟨wr.heap.size, 0, none⟩ = some (.int .i64 (mf)) := by simp [World.cell?, HG1.out]
              have z14 : (W1.drewN (1 + n4)).cell? ⟨wr.heap.size, 1, none⟩ = some (.int .i64 (t)) := by simp [World.cell?, HG1.out]
              have z24 : (W1.drewN (1 + n4)).cell? ⟨wr.heap.size, 2, none⟩ = some (.int .i64 (p)) := by simp [World.cell?, HG1.out]
              have zf4 : ∀ k, (W1.drewN (1 + n4)).frozen? ⟨wr.heap.size, k, none⟩ = false := fun k => by simp [World.frozen?, HG1.out]
              obtain ⟨W2, hW2⟩ : ∃ W2, W2 = (W1.drewN (1 + n4)).setCell ⟨wr.heap.size, 1, none⟩ (.int .i64 (mf + 1 + mt)) := ⟨_, rfl⟩
              have HG2 : Hid (W2.heap[wr.heap.size]? = some (.cells #[Value.int .i64 mf, Value.int .i64 (mf + 1 + mt), Value.int .i64 p] 47 (0, 0))) := Lib.hid (by rw [hW2]; have := HG1.out; simp [World.setCell, Array.getElem?_modify, this])
              have HB2 : Hid (Below wr.heap.size wr W2) := Lib.hid (by rw [hW2]; exact (HB1.out.trans (HK4.out.to_below (by omega) (fun k hk => by simp at hk))).setCell (p := ⟨wr.heap.size, 1, none⟩) (Nat.le_refl _) _)
              have hs2 : W2.heap.size = wr.heap.size + 1 := by rw [hW2]; simpa [World.setCell, World.drewN, World.drew] using hs1
              have HW2 := Lib.hid hW2
              clear hW2
              go_upto_region 9 with fail
              rw [← HW2.out]
              clear z04 z14 z24 zf4
              have hft : tameF ⟨f, t, p⟩ n = mf := by unfold tameF; rw [if_pos (Or.inr (Or.inl k2))]; exact HMFE.out.symm
              have htt : tameT ⟨f, t, p⟩ n = mf + 1 + mt := by unfold tameT; rw [if_pos (Or.inr (Or.inl k2)), ← HMFE.out, ← HMTE.out]
              have HFT := Lib.hid hft
              have HTT := Lib.hid htt
              clear hft htt
              by_cases k5 : p < 0
              · have hp0 := modV_bd (x := p) (n := 1000001) (by omega) (by omega)
                have hpp : tameP ⟨f, t, p⟩ = modV p 1000001 := by unfold tameP; rw [if_pos (Or.inl k5)]
                have HPP := Lib.hid hpp
                have HMP := Lib.hid (fun w => mod_c p 1000001 w (by omega) (by omega))
                clear hp0 hpp
                have z02 : W2.cell? ⟨wr.heap.size, 0, none⟩ = some (.int .i64 (mf)) := by simp [World.cell?, HG2.out]
                have z12 : W2.cell? ⟨wr.heap.size, 1, none⟩ = some (.int .i64 (mf + 1 + mt)) := by simp [World.cell?, HG2.out]
                have z22 : W2.cell? ⟨wr.heap.size, 2, none⟩ = some (.int .i64 (p)) := by simp [World.cell?, HG2.out]
                have zf2 : ∀ k, W2.frozen? ⟨wr.heap.size, k, none⟩ = false := fun k => by simp [World.frozen?, HG2.out]
                go_wp2_with fail
                refine (HMP.out _).mono ?_
                rintro e w5 ⟨rfl, n5, rfl⟩
                go_upto_region 11 with fail
                obtain ⟨W3, hW3⟩ : ∃ W3, W3 = (W2.drewN n5).setCell ⟨wr.heap.size, 2, none⟩ (.int .i64 (modV p 1000001)) := ⟨_, rfl⟩
                rw [← hW3]
                have HG3 : Hid (W3.heap[wr.heap.size]? = some (.cells #[Value.int .i64 (mf), Value.int .i64 (mf + 1 + mt), Value.int .i64 (modV p 1000001)] 47 (0, 0))) := Lib.hid (by rw [hW3]; have := HG2.out; simp [World.setCell, Array.getElem?_modify, this])
                have HB3 : Hid (Below wr.heap.size wr W3) := Lib.hid (by rw [hW3]; exact (HB2.out.trans ((pw_below_drewN (Below.refl _ _) n5).mono (by show wr.heap.size ≤ W2.heap.size; omega))).setCell (p := ⟨wr.heap.size, 2, none⟩) (Nat.le_refl _) _)
                clear z02 z12 z22 zf2
                clear hW3
                have z03 : W3.cell? ⟨wr.heap.size, 0, none⟩ = some (.int .i64 (mf)) := by simp [World.cell?, HG3.out]
                have z13 : W3.cell? ⟨wr.heap.size, 1, none⟩ = some (.int .i64 (mf + 1 + mt)) := by simp [World.cell?, HG3.out]
                have z23 : W3.cell? ⟨wr.heap.size, 2, none⟩ = some (.int .i64 (modV p 1000001)) := by simp [World.cell?, HG3.out]
                have zf3 : ∀ k, W3.frozen? ⟨wr.heap.size, k, none⟩ = false := fun k => by simp [World.frozen?, HG3.out]
                have hy : tame1 (n : Int) ⟨f, t, p⟩ = ⟨mf, mf + 1 + mt, modV p 1000001⟩ := by
                  show (⟨tameF ⟨f, t, p⟩ n, tameT ⟨f, t, p⟩ n, tameP ⟨f, t, p⟩⟩ : S47) = _
                  rw [HFT.out, HTT.out, HPP.out]
                have HY := Lib.hid hy
                have hsW := HB3.out.size
                have hOW := Lib.hid (Kd.R_below HO.out HB3.out)
                clear hy
                try clear hs0
                try clear hs1
                try clear hs2
                go_wp2_with (at_builtin; refine Kd.R_append k47 (w0 := w) w.heap.size rfl (.tmp 70) (.tmp 72) 22 47 (.agg #[(.int .i64 0), (.int .i64 0), (.int .i64 0)]) 24 rfl Try.underlying22 info47 rfl (by decide) (by omega) u7 (M.take q) (⟨mf, mf + 1 + mt, modV p 1000001⟩ : S47) [.int .i64 (mf), .int .i64 (mf + 1 + mt), .int .i64 (modV p 1000001)] (fun _ => True) (fun _ => False) rfl rfl ?aP (fun _ hk => hk.elim) (fun _ _ => trivial) ?aO ?aB ?aS ?aL ?_)
                case aP => exact k47_mkM _ _ _ (⟨mf, mf + 1 + mt, modV p 1000001⟩ : S47)
                case aO => exact hOW.out
                case aB => exact hB.trans (HB3.out.mono (by omega))
                case aS => omega
                case aL => have h9 := HLEN.out; (try simp only [List.length_take] at h9 ⊢); omega
                intro v1 w9 ho hb hg hat
                have HO9 := Lib.hid ho
                clear ho hg hat
                clear z03 z13 z23 zf3
                go_wp2_with fail
                go_roundw
                case rel => exact ⟨q + 1, by go_num, by omega, by omega, (by rw [HNX.out, HY.out]; exact HO9.out), hb⟩
                case measure => simp [intOf]; omega
              · by_cases k6 : 1000000 < p
                · have hp0 := modV_bd (x := p) (n := 1000001) (by omega) (by omega)
                  have hpp : tameP ⟨f, t, p⟩ = modV p 1000001 := by unfold tameP; rw [if_pos (Or.inr k6)]
                  have HPP := Lib.hid hpp
                  have HMP := Lib.hid (fun w => mod_c p 1000001 w (by omega) (by omega))
                  clear hp0 hpp
                  have z02 : W2.cell? ⟨wr.heap.size, 0, none⟩ = some (.int .i64 (mf)) := by simp [World.cell?, HG2.out]
                  have z12 : W2.cell? ⟨wr.heap.size, 1, none⟩ = some (.int .i64 (mf + 1 + mt)) := by simp [World.cell?, HG2.out]
                  have z22 : W2.cell? ⟨wr.heap.size, 2, none⟩ = some (.int .i64 (p)) := by simp [World.cell?, HG2.out]
                  have zf2 : ∀ k, W2.frozen? ⟨wr.heap.size, k, none⟩ = false := fun k => by simp [World.frozen?, HG2.out]
                  go_wp2_with fail
                  refine (HMP.out _).mono ?_
                  rintro e w5 ⟨rfl, n5, rfl⟩
                  go_upto_region 11 with fail
                  obtain ⟨W3, hW3⟩ : ∃ W3, W3 = (W2.drewN n5).setCell ⟨wr.heap.size, 2, none⟩ (.int .i64 (modV p 1000001)) := ⟨_, rfl⟩
                  rw [← hW3]
                  have HG3 : Hid (W3.heap[wr.heap.size]? = some (.cells #[Value.int .i64 (mf), Value.int .i64 (mf + 1 + mt), Value.int .i64 (modV p 1000001)] 47 (0, 0))) := Lib.hid (by rw [hW3]; have := HG2.out; simp [World.setCell, Array.getElem?_modify, this])
                  have HB3 : Hid (Below wr.heap.size wr W3) := Lib.hid (by rw [hW3]; exact (HB2.out.trans ((pw_below_drewN (Below.refl _ _) n5).mono (by show wr.heap.size ≤ W2.heap.size; omega))).setCell (p := ⟨wr.heap.size, 2, none⟩) (Nat.le_refl _) _)
                  clear z02 z12 z22 zf2
                  clear hW3
                  have z03 : W3.cell? ⟨wr.heap.size, 0, none⟩ = some (.int .i64 (mf)) := by simp [World.cell?, HG3.out]
                  have z13 : W3.cell? ⟨wr.heap.size, 1, none⟩ = some (.int .i64 (mf + 1 + mt)) := by simp [World.cell?, HG3.out]
                  have z23 : W3.cell? ⟨wr.heap.size, 2, none⟩ = some (.int .i64 (modV p 1000001)) := by simp [World.cell?, HG3.out]
                  have zf3 : ∀ k, W3.frozen? ⟨wr.heap.size, k, none⟩ = false := fun k => by simp [World.frozen?, HG3.out]
                  have hy : tame1 (n : Int) ⟨f, t, p⟩ = ⟨mf, mf + 1 + mt, modV p 1000001⟩ := by
                    show (⟨tameF ⟨f, t, p⟩ n, tameT ⟨f, t, p⟩ n, tameP ⟨f, t, p⟩⟩ : S47) = _
                    rw [HFT.out, HTT.out, HPP.out]
                  have HY := Lib.hid hy
                  have hsW := HB3.out.size
                  have hOW := Lib.hid (Kd.R_below HO.out HB3.out)
                  clear hy
                  try clear hs0
                  try clear hs1
                  try clear hs2
                  go_wp2_with (at_builtin; refine Kd.R_append k47 (w0 := w) w.heap.size rfl (.tmp 70) (.tmp 72) 22 47 (.agg #[(.int .i64 0), (.int .i64 0), (.int .i64 0)]) 24 rfl Try.underlying22 info47 rfl (by decide) (by omega) u7 (M.take q) (⟨mf, mf + 1 + mt, modV p 1000001⟩ : S47) [.int .i64 (mf), .int .i64 (mf + 1 + mt), .int .i64 (modV p 1000001)] (fun _ => True) (fun _ => False) rfl rfl ?aP (fun _ hk => hk.elim) (fun _ _ => trivial) ?aO ?aB ?aS ?aL ?_)
                  case aP => exact k47_mkM _ _ _ (⟨mf, mf + 1 + mt, modV p 1000001⟩ : S47)
                  case aO => exact hOW.out
                  case aB => exact hB.trans (HB3.out.mono (by omega))
                  case aS => omega
                  case aL => have h9 := HLEN.out; (try simp only [List.length_take] at h9 ⊢); omega
                  intro v1 w9 ho hb hg hat
                  have HO9 := Lib.hid ho
                  clear ho hg hat
                  clear z03 z13 z23 zf3
                  go_wp2_with fail
                  go_roundw
                  case rel => exact ⟨q + 1, by go_num, by omega, by omega, (by rw [HNX.out, HY.out]; exact HO9.out), hb⟩
                  case measure => simp [intOf]; omega
                · have hpp : tameP ⟨f, t, p⟩ = p := by unfold tameP; exact if_neg (show ¬ (p < 0 ∨ 1000000 < p) by omega)
                  have HPP := Lib.hid hpp
                  clear hpp
                  have z02 : W2.cell? ⟨wr.heap.size, 0, none⟩ = some (.int .i64 (mf)) := by simp [World.cell?, HG2.out]
                  have z12 : W2.cell? ⟨wr.heap.size, 1, none⟩ = some (.int .i64 (mf + 1 + mt)) := by simp [World.cell?, HG2.out]
                  have z22 : W2.cell? ⟨wr.heap.size, 2, none⟩ = some (.int .i64 (p)) := by simp [World.cell?, HG2.out]
                  have zf2 : ∀ k, W2.frozen? ⟨wr.heap.size, k, none⟩ = false := fun k => by simp [World.frozen?, HG2.out]
                  go_upto_region 11 with fail
                  clear z02 z12 z22 zf2
                  have z02 : W2.cell? ⟨wr.heap.size, 0, none⟩ = some (.int .i64 (mf)) := by simp [World.cell?, HG2.out]
                  have z12 : W2.cell? ⟨wr.heap.size, 1, none⟩ = some (.int .i64 (mf + 1 + mt)) := by simp [World.cell?, HG2.out]
                  have z22 : W2.cell? ⟨wr.heap.size, 2, none⟩ = some (.int .i64 (p)) := by simp [World.cell?, HG2.out]
                  have zf2 : ∀ k, W2.frozen? ⟨wr.heap.size, k, none⟩ = false := fun k => by simp [World.frozen?, HG2.out]
                  have hy : tame1 (n : Int) ⟨f, t, p⟩ = ⟨mf, mf + 1 + mt, p⟩ := by
                    show (⟨tameF ⟨f, t, p⟩ n, tameT ⟨f, t, p⟩ n, tameP ⟨f, t, p⟩⟩ : S47) = _
                    rw [HFT.out, HTT.out, HPP.out]
                  have HY := Lib.hid hy
                  have hsW := HB2.out.size
                  have hOW := Lib.hid (Kd.R_below HO.out HB2.out)
                  clear hy
                  try clear hs0
                  try clear hs1
                  try clear hs2
                  go_wp2_with (at_builtin; refine Kd.R_append k47 (w0 := w) w.heap.size rfl (.tmp 70) (.tmp 72) 22 47 (.agg #[(.int .i64 0), (.int .i64 0), (.int .i64 0)]) 24 rfl Try.underlying22 info47 rfl (by decide) (by omega) u7 (M.take q) (⟨mf, mf + 1 + mt, p⟩ : S47) [.int .i64 (mf), .int .i64 (mf + 1 + mt), .int .i64 (p)] (fun _ => True) (fun _ => False) rfl rfl ?aP (fun _ hk => hk.elim) (fun _ _ => trivial) ?aO ?aB ?aS ?aL ?_)
                  case aP => exact k47_mkM _ _ _ (⟨mf, mf + 1 + mt, p⟩ : S47)
                  case aO => exact hOW.out
                  case aB => exact hB.trans (HB2.out.mono (by omega))
                  case aS => omega
                  case aL => have h9 := HLEN.out; (try simp only [List.length_take] at h9 ⊢); omega
                  intro v1 w9 ho hb hg hat
                  have HO9 := Lib.hid ho
                  clear ho hg hat
                  clear z02 z12 z22 zf2
                  go_wp2_with fail
                  go_roundw
                  case rel => exact ⟨q + 1, by go_num, by omega, by omega, (by rw [HNX.out, HY.out]; exact HO9.out), hb⟩
                  case measure => simp [intOf]; omega
          · by_cases k3 : t ≤ f
            · have ha := modV_bd (x := f) (n := n) (by omega) (by omega)
              have ha1 := ha.1
              have ha2 := ha.2.1
              have hb0 := modV_bd (x := t) (n := (n : Int) - modV f n) (by omega) (by omega)
              have hb1 := hb0.1
              have hb2 := hb0.2.1
              have HMF := Lib.hid (fun w => mod_c f n w (by omega) (by omega))
              have HMT := Lib.hid (fun w => mod_c t ((n : Int) - modV f n) w (by omega) (by omega))
              obtain ⟨mf, hmf⟩ : ∃ mf, mf = modV f n := ⟨_, rfl⟩
              rw [← hmf] at HMF HMT ha1 ha2 hb0 hb1 hb2
              obtain ⟨mt, hmt⟩ : ∃ mt, mt = modV t ((n : Int) - mf) := ⟨_, rfl⟩
              rw [← hmt] at HMT hb1 hb2
              have HMFE := Lib.hid hmf
              have HMTE := Lib.hid hmt
              clear ha hb0 hmf hmt
              go_wp2_with fail
              rw [← HW0.out]
              refine (HMF.out _).mono ?_
              rintro e w3 ⟨rfl, n3, rfl⟩
              have z00 : W0.cell? ⟨wr.heap.size, 0, none⟩ = some (.int .i64 (f)) := by simp [World.cell?, HG0.out]
              have z10 : W0.cell? ⟨wr.heap.size, 1, none⟩ = some (.int .i64 (t)) := by simp [World.cell?, HG0.out]
              have z20 : W0.cell? ⟨wr.heap.size, 2, none⟩ = some (.int .i64 (p)) := by simp [World.cell?, HG0.out]
              have zf0 : ∀ k, W0.frozen? ⟨wr.heap.size, k, none⟩ = false := fun k => by simp [World.frozen?, HG0.out]
              obtain ⟨W1, hW1⟩ : ∃ W1, W1 = (W0.drewN n3).setCell ⟨wr.heap.size, 0, none⟩ (.int .i64 mf) := ⟨_, rfl⟩
              have HG1 : Hid (W1.heap[wr.heap.size]? = some (.cells #[Value.int .i64 mf, Value.int .i64 t, Value.int .i64 p] 47 (0, 0))) := Lib.hid (by rw [hW1]; have := HG0.out; simp [World.setCell, Array.getElem?_modify, World.drewN, this])
              have HB1 : Hid (Below wr.heap.size wr W1) := Lib.hid (by rw [hW1]; exact (HBW0.out.trans ((pw_below_drewN (Below.refl _ _) n3).mono (by show wr.heap.size ≤ W0.heap.size; omega))).setCell (p := ⟨wr.heap.size, 0, none⟩) (Nat.le_refl _) _)
              have hs1 : W1.heap.size = wr.heap.size + 1 := by rw [hW1]; simp [World.setCell, World.drewN, hs0]
              have HW1 := Lib.hid hW1
              clear hW1
              go_wp2_with fail
              rw [← HW1.out]
              clear z00 z10 z20 zf0
              have CE : Hid (∀ w', R.Keeps [] W1 w' → w'.cell? ⟨wr.heap.size, 0, none⟩ = some (.int .i64 mf) ∧ w'.cell? ⟨wr.heap.size, 1, none⟩ = some (.int .i64 t)) := Lib.hid (fun w' h =>
                ⟨h.cell (a := ⟨wr.heap.size, 0, none⟩) (by simp [World.cell?, HG1.out]) (by simp), h.cell (a := ⟨wr.heap.size, 1, none⟩) (by simp [World.cell?, HG1.out]) (by simp)⟩)
              have hk1 : mf ≤ 1000 := by omega
              have hk2 : mt ≤ 1000 := by omega
              have hk3 : (n : Int) ≤ 1000 := by omega
              have hi3 : -4611686018427387904 ≤ mf + 1 + mt ∧ mf + 1 + mt ≤ 4611686018427387904 := by omega
              have hi2 : -4611686018427387904 ≤ (n : Int) - mf ∧ (n : Int) - mf ≤ 4611686018427387904 := by omega
              have hi1 : -4611686018427387904 ≤ mf + 1 ∧ mf + 1 ≤ 4611686018427387904 := by omega
              have e1 : IntKind.i64.wrap (mf + 1) = mf + 1 := by rw [i64_w]; exact wrapI hi1
              have e2 : IntKind.i64.wrap ((n : Int) - mf) = (n : Int) - mf := by rw [i64_w]; exact wrapI hi2
              have e3 : IntKind.i64.wrap (mf + 1 + mt) = mf + 1 + mt := by rw [i64_w]; exact wrapI hi3
              clear hi1 hi2 hi3
              apply R.wp_region_text [0, 1, 2, 3, 4, 5, 6, 7, 8] [9, 10, 11, 12] 12 (R.Keeps [] W1)
              case hm => kernel_rfl
              case hB => kernel_rfl
              case hd => rfl
              case hQ => exact fun _ _ _ _ _ h => h
              case hS => exact (R.Keeps.refl _ _).drew
              case hF =>
                intro w' hS
                obtain ⟨c1, c2⟩ := CE.out w' hS
                have HS := Lib.hid hS
                clear hS
                simp only [R.pickC, List.filterMap_cons, List.getElem?_toArray, List.getElem?_cons_zero, List.getElem?_cons_succ, List.filterMap_nil]
                iterate 9 ((with_reducible refine R.wpStill_plain rfl (fun K hK => ?_)); go_simp; with_reducible refine hK _ ?_; clear hK K)
                exact wpStill_nil rfl
              case hC =>
                simp only [R.chainOf, List.getElem?_toArray, List.getElem?_cons_zero, List.getElem?_cons_succ, Nat.reduceBNe, Bool.and_true, Bool.and_false, Bool.false_and]
                refine R.wpSeq_same (fun K hK => ?_)
                go_simp
                refine (HMT.out _).mono ?_
                rintro e w4 ⟨rfl, n4, rfl⟩
                have hk4 : R.Keeps [] W1 (W1.drewN (1 + n4)) := R.Keeps.of_below [] (pw_below_drewN (Below.refl _ _) (1 + n4))
                refine hK _ _ (((R.Keeps.refl _ _).drew).below (pw_below_drewN (Below.refl _ _) n4)) ?_
                clear hK K
                refine R.wpSeq_same (fun K hK => ?_)
                go_simp
                with_reducible refine hK _ _ hk4 ?_
                clear hK K
                refine R.wpSeq_same (fun K hK => ?_)
                go_simp
                with_reducible refine hK _ _ hk4 ?_
                clear hK K
                clear e1 e2 e3
                refine R.wpSeq_tail _ rfl ?_
                simp only [List.map_cons, List.map_nil]
                have HG4 : Hid ((W1.drewN (1 + n4)).heap[wr.heap.size]? = some (.cells #[Value.int .i64 mf, Value.int .i64 t, Value.int .i64 p] 47 (0, 0))) := Lib.hid (by have := HG1.out; simpa [World.drewN, World.drew] using this)
                have HK4 := Lib.hid hk4
                clear hk4
                have z04 : (W1.drewN (1 + n4)).cell? ⟨wr.heap.size, 0, none⟩ = some (.int .i64 (mf)) := by simp [World.cell?, HG1.out]
                have z14 : (W1.drewN (1 + n4)).cell? ⟨wr.heap.size, 1, none⟩ = some (.int .i64 (t)) := by simp [World.cell?, HG1.out]
                have z24 : (W1.drewN (1 + n4)).cell? ⟨wr.heap.size, 2, none⟩ = some (.int .i64 (p)) := by simp [World.cell?, HG1.out]
                have zf4 : ∀ k, (W1.drewN (1 + n4)).frozen? ⟨wr.heap.size, k, none⟩ = false := fun k => by simp [World.frozen?, HG1.out]
                obtain ⟨W2, hW2⟩ : ∃ W2, W2 = (W1.drewN (1 + n4)).setCell ⟨wr.heap.size, 1, none⟩ (.int .i64 (mf + 1 + mt)) := ⟨_, rfl⟩
                have HG2 : Hid (W2.heap[wr.heap.size]? = some (.cells #[Value.int .i64 mf, Value.int .i64 (mf + 1 + mt), Value.int .i64 p] 47 (0, 0))) := Lib.hid (by rw [hW2]; have := HG1.out; simp [World.setCell, Array.getElem?_modify, this])
                have HB2 : Hid (Below wr.heap.size wr W2) := Lib.hid (by rw [hW2]; exact (HB1.out.trans (HK4.out.to_below (by omega) (fun k hk => by simp at hk))).setCell (p := ⟨wr.heap.size, 1, none⟩) (Nat.le_refl _) _)
                have hs2 : W2.heap.size = wr.heap.size + 1 := by rw [hW2]; simpa [World.setCell, World.drewN, World.drew] using hs1
                have HW2 := Lib.hid hW2
                clear hW2
                go_upto_region 9 with fail
                rw [← HW2.out]
                clear z04 z14 z24 zf4
                have hft : tameF ⟨f, t, p⟩ n = mf := by unfold tameF; rw [if_pos (Or.inr (Or.inr k3))]; exact HMFE.out.symm
                have htt : tameT ⟨f, t, p⟩ n = mf + 1 + mt := by unfold tameT; rw [if_pos (Or.inr (Or.inr k3)), ← HMFE.out, ← HMTE.out]
                have HFT := Lib.hid hft
                have HTT := Lib.hid htt
                clear hft htt
                by_cases k5 : p < 0
                · have hp0 := modV_bd (x := p) (n := 1000001) (by omega) (by omega)
                  have hpp : tameP ⟨f, t, p⟩ = modV p 1000001 := by unfold tameP; rw [if_pos (Or.inl k5)]
                  have HPP := Lib.hid hpp
                  have HMP := Lib.hid (fun w => mod_c p 1000001 w (by omega) (by omega))
                  clear hp0 hpp
                  have z02 : W2.cell? ⟨wr.heap.size, 0, none⟩ = some (.int .i64 (mf)) := by simp [World.cell?, HG2.out]
                  have z12 : W2.cell? ⟨wr.heap.size, 1, none⟩ = some (.int .i64 (mf + 1 + mt)) := by simp [World.cell?, HG2.out]
                  have z22 : W2.cell? ⟨wr.heap.size, 2, none⟩ = some (.int .i64 (p)) := by simp [World.cell?, HG2.out]
                  have zf2 : ∀ k, W2.frozen? ⟨wr.heap.size, k, none⟩ = false := fun k => by simp [World.frozen?, HG2.out]
                  go_wp2_with fail
                  refine (HMP.out _).mono ?_
                  rintro e w5 ⟨rfl, n5, rfl⟩
                  go_upto_region 11 with fail
                  obtain ⟨W3, hW3⟩ : ∃ W3, W3 = (W2.drewN n5).setCell ⟨wr.heap.size, 2, none⟩ (.int .i64 (modV p 1000001)) := ⟨_, rfl⟩
                  rw [← hW3]
                  have HG3 : Hid (W3.heap[wr.heap.size]? = some (.cells #[Value.int .i64 (mf), Value.int .i64 (mf + 1 + mt), Value.int .i64 (modV p 1000001)] 47 (0, 0))) := Lib.hid (by rw [hW3]; have := HG2.out; simp [World.setCell, Array.getElem?_modify, this])
                  have HB3 : Hid (Below wr.heap.size wr W3) := Lib.hid (by rw [hW3]; exact (HB2.out.trans ((pw_below_drewN (Below.refl _ _) n5).mono (by show wr.heap.size ≤ W2.heap.size; omega))).setCell (p := ⟨wr.heap.size, 2, none⟩) (Nat.le_refl _) _)
                  clear z02 z12 z22 zf2
                  clear hW3
                  have z03 : W3.cell? ⟨wr.heap.size, 0, none⟩ = some (.int .i64 (mf)) := by simp [World.cell?, HG3.out]
                  have z13 : W3.cell? ⟨wr.heap.size, 1, none⟩ = some (.int .i64 (mf + 1 + mt)) := by simp [World.cell?, HG3.out]
                  have z23 : W3.cell? ⟨wr.heap.size, 2, none⟩ = some (.int .i64 (modV p 1000001)) := by simp [World.cell?, HG3.out]
                  have zf3 : ∀ k, W3.frozen? ⟨wr.heap.size, k, none⟩ = false := fun k => by simp [World.frozen?, HG3.out]
                  have hy : tame1 (n : Int) ⟨f, t, p⟩ = ⟨mf, mf + 1 + mt, modV p 1000001⟩ := by
                    show (⟨tameF ⟨f, t, p⟩ n, tameT ⟨f, t, p⟩ n, tameP ⟨f, t, p⟩⟩ : S47) = _
                    rw [HFT.out, HTT.out, HPP.out]
                  have HY := Lib.hid hy
                  have hsW := HB3.out.size
                  have hOW := Lib.hid (Kd.R_below HO.out HB3.out)
                  clear hy
                  try clear hs0
                  try clear hs1
                  try clear hs2
                  go_wp2_with (at_builtin; refine Kd.R_append k47 (w0 := w) w.heap.size rfl (.tmp 70) (.tmp 72) 22 47 (.agg #[(.int .i64 0), (.int .i64 0), (.int .i64 0)]) 24 rfl Try.underlying22 info47 rfl (by decide) (by omega) u7 (M.take q) (⟨mf, mf + 1 + mt, modV p 1000001⟩ : S47) [.int .i64 (mf), .int .i64 (mf + 1 + mt), .int .i64 (modV p 1000001)] (fun _ => True) (fun _ => False) rfl rfl ?aP (fun _ hk => hk.elim) (fun _ _ => trivial) ?aO ?aB ?aS ?aL ?_)
                  case aP => exact k47_mkM _ _ _ (⟨mf, mf + 1 + mt, modV p 1000001⟩ : S47)
                  case aO => exact hOW.out
                  case aB => exact hB.trans (HB3.out.mono (by omega))
                  case aS => omega
                  case aL => have h9 := HLEN.out; (try simp only [List.length_take] at h9 ⊢); omega
                  intro v1 w9 ho hb hg hat
                  have HO9 := Lib.hid ho
                  clear ho hg hat
                  clear z03 z13 z23 zf3
                  go_wp2_with fail
                  go_roundw
                  case rel => exact ⟨q + 1, by go_num, by omega, by omega, (by rw [HNX.out, HY.out]; exact HO9.out), hb⟩
                  case measure => simp [intOf]; omega
                · by_cases k6 : 1000000 < p
                  · have hp0 := modV_bd (x := p) (n := 1000001) (by omega) (by omega)
                    have hpp : tameP ⟨f, t, p⟩ = modV p 1000001 := by unfold tameP; rw [if_pos (Or.inr k6)]
                    have HPP := Lib.hid hpp
                    have HMP := Lib.hid (fun w => mod_c p 1000001 w (by omega) (by omega))
                    clear hp0 hpp
                    have z02 : W2.cell? ⟨wr.heap.size, 0, none⟩ = some (.int .i64 (mf)) := by simp [World.cell?, HG2.out]
                    have z12 : W2.cell? ⟨wr.heap.size, 1, none⟩ = some (.int .i64 (mf + 1 + mt)) := by simp [World.cell?, HG2.out]
                    have z22 : W2.cell? ⟨wr.heap.size, 2, none⟩ = some (.int .i64 (p)) := by simp [World.cell?, HG2.out]
                    have zf2 : ∀ k, W2.frozen? ⟨wr.heap.size, k, none⟩ = false := fun k => by simp [World.frozen?, HG2.out]
                    go_wp2_with fail
                    refine (HMP.out _).mono ?_
                    rintro e w5 ⟨rfl, n5, rfl⟩
                    go_upto_region 11 with fail
                    obtain ⟨W3, hW3⟩ : ∃ W3, W3 = (W2.drewN n5).setCell ⟨wr.heap.size, 2, none⟩ (.int .i64 (modV p 1000001)) := ⟨_, rfl⟩
                    rw [← hW3]
                    have HG3 : Hid (W3.heap[wr.heap.size]? = some (.cells #[Value.int .i64 (mf), Value.int .i64 (mf + 1 + mt), Value.int .i64 (modV p 1000001)] 47 (0, 0))) := Lib.hid (by rw [hW3]; have := HG2.out; simp [World.setCell, Array.getElem?_modify, this])
                    have HB3 : Hid (Below wr.heap.size wr W3) := Lib.hid (by rw [hW3]; exact (HB2.out.trans ((pw_below_drewN (Below.refl _ _) n5).mono (by show wr.heap.size ≤ W2.heap.size; omega))).setCell (p := ⟨wr.heap.size, 2, none⟩) (Nat.le_refl _) _)
                    clear z02 z12 z22 zf2
                    clear hW3
                    have z03 : W3.cell? ⟨wr.heap.size, 0, none⟩ = some (.int .i64 (mf)) := by simp [World.cell?, HG3.out]
                    have z13 : W3.cell? ⟨wr.heap.size, 1, none⟩ = some (.int .i64 (mf + 1 + mt)) := by simp [World.cell?, HG3.out]
                    have z23 : W3.cell? ⟨wr.heap.size, 2, none⟩ = some (.int .i64 (modV p 1000001)) := by simp [World.cell?, HG3.out]
                    have zf3 : ∀ k, W3.frozen? ⟨wr.heap.size, k, none⟩ = false := fun k => by simp [World.frozen?, HG3.out]
                    have hy : tame1 (n : Int) ⟨f, t, p⟩ = ⟨mf, mf + 1 + mt, modV p 1000001⟩ := by
                      show (⟨tameF ⟨f, t, p⟩ n, tameT ⟨f, t, p⟩ n, tameP ⟨f, t, p⟩⟩ : S47) = _
                      rw [HFT.out, HTT.out, HPP.out]
                    have HY := Lib.hid hy
                    have hsW := HB3.out.size
                    have hOW := Lib.hid (Kd.R_below HO.out HB3.out)
                    clear hy
                    try clear hs0
                    try clear hs1
                    try clear hs2
                    go_wp2_with (at_builtin; refine Kd.R_append k47 (w0 := w) w.heap.size rfl (.tmp 70) (.tmp 72) 22 47 (.agg #[(.int .i64 0), (.int .i64 0), (.int .i64 0)]) 24 rfl Try.underlying22 info47 rfl (by decide) (by omega) u7 (M.take q) (⟨mf, mf + 1 + mt, modV p 1000001⟩ : S47) [.int .i64 (mf), .int .i64 (mf + 1 + mt), .int .i64 (modV p 1000001)] (fun _ => True) (fun _ => False) rfl rfl ?aP (fun _ hk => hk.elim) (fun _ _ => trivial) ?aO ?aB ?aS ?aL ?_)
                    case aP => exact k47_mkM _ _ _ (⟨mf, mf + 1 + mt, modV p 1000001⟩ : S47)
                    case aO => exact hOW.out
                    case aB => exact hB.trans (HB3.out.mono (by omega))
                    case aS => omega
                    case aL => have h9 := HLEN.out; (try simp only [List.length_take] at h9 ⊢); omega
                    intro v1 w9 ho hb hg hat
                    have HO9 := Lib.hid ho
                    clear ho hg hat
                    clear z03 z13 z23 zf3
                    go_wp2_with fail
                    go_roundw
                    case rel => exact ⟨q + 1, by go_num, by omega, by omega, (by rw [HNX.out, HY.out]; exact HO9.out), hb⟩
                    case measure => simp [intOf]; omega
                  · have hpp : tameP ⟨f, t, p⟩ = p := by unfold tameP; exact if_neg (show ¬ (p < 0 ∨ 1000000 < p) by omega)
                    have HPP := Lib.hid hpp
                    clear hpp
                    have z02 : W2.cell? ⟨wr.heap.size, 0, none⟩ = some (.int .i64 (mf)) := by simp [World.cell?, HG2.out]
                    have z12 : W2.cell? ⟨wr.heap.size, 1, none⟩ = some (.int .i64 (mf + 1 + mt)) := by simp [World.cell?, HG2.out]
                    have z22 : W2.cell? ⟨wr.heap.size, 2, none⟩ = some (.int .i64 (p)) := by simp [World.cell?, HG2.out]
                    have zf2 : ∀ k, W2.frozen? ⟨wr.heap.size, k, none⟩ = false := fun k => by simp [World.frozen?, HG2.out]
                    go_upto_region 11 with fail
                    clear z02 z12 z22 zf2
                    have z02 : W2.cell? ⟨wr.heap.size, 0, none⟩ = some (.int .i64 (mf)) := by simp [World.cell?, HG2.out]
                    have z12 : W2.cell? ⟨wr.heap.size, 1, none⟩ = some (.int .i64 (mf + 1 + mt)) := by simp [World.cell?, HG2.out]
                    have z22 : W2.cell? ⟨wr.heap.size, 2, none⟩ = some (.int .i64 (p)) := by simp [World.cell?, HG2.out]
                    have zf2 : ∀ k, W2.frozen? ⟨wr.heap.size, k, none⟩ = false := fun k => by simp [World.frozen?, HG2.out]
                    have hy : tame1 (n : Int) ⟨f, t, p⟩ = ⟨mf, mf + 1 + mt, p⟩ := by
                      show (⟨tameF ⟨f, t, p⟩ n, tameT ⟨f, t, p⟩ n, tameP ⟨f, t, p⟩⟩ : S47) = _
                      rw [HFT.out, HTT.out, HPP.out]
                    have HY := Lib.hid hy
                    have hsW := HB2.out.size
                    have hOW := Lib.hid (Kd.R_below HO.out HB2.out)
                    clear hy
                    try clear hs0
                    try clear hs1
                    try clear hs2
                    go_wp2_with (at_builtin; refine Kd.R_append k47 (w0 := w) w.heap.size rfl (.tmp 70) (.tmp 72) 22 47 (.agg #[(.int .i64 0), (.int .i64 0), (.int .i64 0)]) 24 rfl Try.underlying22 info47 rfl (by decide) (by omega) u7 (M.take q) (⟨mf, mf + 1 + mt, p⟩ : S47) [.int .i64 (mf), .int .i64 (mf + 1 + mt), .int .i64 (p)] (fun _ => True) (fun _ => False) rfl rfl ?aP (fun _ hk => hk.elim) (fun _ _ => trivial) ?aO ?aB ?aS ?aL ?_)
                    case aP => exact k47_mkM _ _ _ (⟨mf, mf + 1 + mt, p⟩ : S47)
                    case aO => exact hOW.out
                    case aB => exact hB.trans (HB2.out.mono (by omega))
                    case aS => omega
                    case aL => have h9 := HLEN.out; (try simp only [List.length_take] at h9 ⊢); omega
                    intro v1 w9 ho hb hg hat
                    have HO9 := Lib.hid ho
                    clear ho hg hat
                    clear z02 z12 z22 zf2
                    go_wp2_with fail
                    go_roundw
                    case rel => exact ⟨q + 1, by go_num, by omega, by omega, (by rw [HNX.out, HY.out]; exact HO9.out), hb⟩
                    case measure => simp [intOf]; omega
            · have hft : tameF ⟨f, t, p⟩ n = f := by unfold tameF; exact if_neg (show ¬ (f < 0 ∨ (n : Int) < t ∨ t ≤ f) by omega)
              have htt : tameT ⟨f, t, p⟩ n = t := by unfold tameT; exact if_neg (show ¬ (f < 0 ∨ (n : Int) < t ∨ t ≤ f) by omega)
              have HFT := Lib.hid hft
              have HTT := Lib.hid htt
              clear hft htt
              go_upto_region 9 with fail
              rw [← HW0.out]
              by_cases k5 : p < 0
              · have hp0 := modV_bd (x := p) (n := 1000001) (by omega) (by omega)
                have hpp : tameP ⟨f, t, p⟩ = modV p 1000001 := by unfold tameP; rw [if_pos (Or.inl k5)]
                have HPP := Lib.hid hpp
                have HMP := Lib.hid (fun w => mod_c p 1000001 w (by omega) (by omega))
                clear hp0 hpp
                have z00 : W0.cell? ⟨wr.heap.size, 0, none⟩ = some (.int .i64 (f)) := by simp [World.cell?, HG0.out]
                have z10 : W0.cell? ⟨wr.heap.size, 1, none⟩ = some (.int .i64 (t)) := by simp [World.cell?, HG0.out]
                have z20 : W0.cell? ⟨wr.heap.size, 2, none⟩ = some (.int .i64 (p)) := by simp [World.cell?, HG0.out]
                have zf0 : ∀ k, W0.frozen? ⟨wr.heap.size, k, none⟩ = false := fun k => by simp [World.frozen?, HG0.out]
                go_wp2_with fail
                refine (HMP.out _).mono ?_
                rintro e w5 ⟨rfl, n5, rfl⟩
                go_upto_region 11 with fail
                obtain ⟨W3, hW3⟩ : ∃ W3, W3 = (W0.drewN n5).setCell ⟨wr.heap.size, 2, none⟩ (.int .i64 (modV p 1000001)) := ⟨_, rfl⟩
                rw [← hW3]
                have HG3 : Hid (W3.heap[wr.heap.size]? = some (.cells #[Value.int .i64 (f), Value.int .i64 (t), Value.int .i64 (modV p 1000001)] 47 (0, 0))) := Lib.hid (by rw [hW3]; have := HG0.out; simp [World.setCell, Array.getElem?_modify, this])
                have HB3 : Hid (Below wr.heap.size wr W3) := Lib.hid (by rw [hW3]; exact (HBW0.out.trans ((pw_below_drewN (Below.refl _ _) n5).mono (by show wr.heap.size ≤ W0.heap.size; omega))).setCell (p := ⟨wr.heap.size, 2, none⟩) (Nat.le_refl _) _)
                clear z00 z10 z20 zf0
                clear hW3
                have z03 : W3.cell? ⟨wr.heap.size, 0, none⟩ = some (.int .i64 (f)) := by simp [World.cell?, HG3.out]
                have z13 : W3.cell? ⟨wr.heap.size, 1, none⟩ = some (.int .i64 (t)) := by simp [World.cell?, HG3.out]
                have z23 : W3.cell? ⟨wr.heap.size, 2, none⟩ = some (.int .i64 (modV p 1000001)) := by simp [World.cell?, HG3.out]
                have zf3 : ∀ k, W3.frozen? ⟨wr.heap.size, k, none⟩ = false := fun k => by simp [World.frozen?, HG3.out]
                have hy : tame1 (n : Int) ⟨f, t, p⟩ = ⟨f, t, modV p 1000001⟩ := by
                  show (⟨tameF ⟨f, t, p⟩ n, tameT ⟨f, t, p⟩ n, tameP ⟨f, t, p⟩⟩ : S47) = _
                  rw [HFT.out, HTT.out, HPP.out]
                have HY := Lib.hid hy
                have hsW := HB3.out.size
                have hOW := Lib.hid (Kd.R_below HO.out HB3.out)
                clear hy
                try clear hs0
                try clear hs1
                try clear hs2
                go_wp2_with (at_builtin; refine Kd.R_append k47 (w0 := w) w.heap.size rfl (.tmp 70) (.tmp 72) 22 47 (.agg #[(.int .i64 0), (.int .i64 0), (.int .i64 0)]) 24 rfl Try.underlying22 info47 rfl (by decide) (by omega) u7 (M.take q) (⟨f, t, modV p 1000001⟩ : S47) [.int .i64 (f), .int .i64 (t), .int .i64 (modV p 1000001)] (fun _ => True) (fun _ => False) rfl rfl ?aP (fun _ hk => hk.elim) (fun _ _ => trivial) ?aO ?aB ?aS ?aL ?_)
                case aP => exact k47_mkM _ _ _ (⟨f, t, modV p 1000001⟩ : S47)
                case aO => exact hOW.out
                case aB => exact hB.trans (HB3.out.mono (by omega))
                case aS => omega
                case aL => have h9 := HLEN.out; (try simp only [List.length_take] at h9 ⊢); omega
                intro v1 w9 ho hb hg hat
                have HO9 := Lib.hid ho
                clear ho hg hat
                clear z03 z13 z23 zf3
                go_wp2_with fail
                go_roundw
                case rel => exact ⟨q + 1, by go_num, by omega, by omega, (by rw [HNX.out, HY.out]; exact HO9.out), hb⟩
                case measure => simp [intOf]; omega
              · by_cases k6 : 1000000 < p
                · have hp0 := modV_bd (x := p) (n := 1000001) (by omega) (by omega)
                  have hpp : tameP ⟨f, t, p⟩ = modV p 1000001 := by unfold tameP; rw [if_pos (Or.inr k6)]
                  have HPP := Lib.hid hpp
                  have HMP := Lib.hid (fun w => mod_c p 1000001 w (by omega) (by omega))
                  clear hp0 hpp
                  have z00 : W0.cell? ⟨wr.heap.size, 0, none⟩ = some (.int .i64 (f)) := by simp [World.cell?, HG0.out]
                  have z10 : W0.cell? ⟨wr.heap.size, 1, none⟩ = some (.int .i64 (t)) := by simp [World.cell?, HG0.out]
                  have z20 : W0.cell? ⟨wr.heap.size, 2, none⟩ = some (.int .i64 (p)) := by simp [World.cell?, HG0.out]
                  have zf0 : ∀ k, W0.frozen? ⟨wr.heap.size, k, none⟩ = false := fun k => by simp [World.frozen?, HG0.out]
                  go_wp2_with fail
                  refine (HMP.out _).mono ?_
                  rintro e w5 ⟨rfl, n5, rfl⟩
                  go_upto_region 11 with fail
                  obtain ⟨W3, hW3⟩ : ∃ W3, W3 = (W0.drewN n5).setCell ⟨wr.heap.size, 2, none⟩ (.int .i64 (modV p 1000001)) := ⟨_, rfl⟩
                  rw [← hW3]
                  have HG3 : Hid (W3.heap[wr.heap.size]? = some (.cells #[Value.int .i64 (f), Value.int .i64 (t), Value.int .i64 (modV p 1000001)] 47 (0, 0))) := Lib.hid (by rw [hW3]; have := HG0.out; simp [World.setCell, Array.getElem?_modify, this])
                  have HB3 : Hid (Below wr.heap.size wr W3) := Lib.hid (by rw [hW3]; exact (HBW0.out.trans ((pw_below_drewN (Below.refl _ _) n5).mono (by show wr.heap.size ≤ W0.heap.size; omega))).setCell (p := ⟨wr.heap.size, 2, none⟩) (Nat.le_refl _) _)
                  clear z00 z10 z20 zf0
                  clear hW3
                  have z03 : W3.cell? ⟨wr.heap.size, 0, none⟩ = some (.int .i64 (f)) := by simp [World.cell?, HG3.out]
                  have z13 : W3.cell? ⟨wr.heap.size, 1, none⟩ = some (.int .i64 (t)) := by simp [World.cell?, HG3.out]
                  have z23 : W3.cell? ⟨wr.heap.size, 2, none⟩ = some (.int .i64 (modV p 1000001)) := by simp [World.cell?, HG3.out]
                  have zf3 : ∀ k, W3.frozen? ⟨wr.heap.size, k, none⟩ = false := fun k => by simp [World.frozen?, HG3.out]
                  have hy : tame1 (n : Int) ⟨f, t, p⟩ = ⟨f, t, modV p 1000001⟩ := by
                    show (⟨tameF ⟨f, t, p⟩ n, tameT ⟨f, t, p⟩ n, tameP ⟨f, t, p⟩⟩ : S47) = _
                    rw [HFT.out, HTT.out, HPP.out]
                  have HY := Lib.hid hy
                  have hsW := HB3.out.size
                  have hOW := Lib.hid (Kd.R_below HO.out HB3.out)
                  clear hy
                  try clear hs0
                  try clear hs1
                  try clear hs2
                  go_wp2_with (at_builtin; refine Kd.R_append k47 (w0 := w) w.heap.size rfl (.tmp 70) (.tmp 72) 22 47 (.agg #[(.int .i64 0), (.int .i64 0), (.int .i64 0)]) 24 rfl Try.underlying22 info47 rfl (by decide) (by omega) u7 (M.take q) (⟨f, t, modV p 1000001⟩ : S47) [.int .i64 (f), .int .i64 (t), .int .i64 (modV p 1000001)] (fun _ => True) (fun _ => False) rfl rfl ?aP (fun _ hk => hk.elim) (fun _ _ => trivial) ?aO ?aB ?aS ?aL ?_)
                  case aP => exact k47_mkM _ _ _ (⟨f, t, modV p 1000001⟩ : S47)
                  case aO => exact hOW.out
                  case aB => exact hB.trans (HB3.out.mono (by omega))
                  case aS => omega
                  case aL => have h9 := HLEN.out; (try simp only [List.length_take] at h9 ⊢); omega
                  intro v1 w9 ho hb hg hat
                  have HO9 := Lib.hid ho
                  clear ho hg hat
                  clear z03 z13 z23 zf3
                  go_wp2_with fail
                  go_roundw
                  case rel => exact ⟨q + 1, by go_num, by omega, by omega, (by rw [HNX.out, HY.out]; exact HO9.out), hb⟩
                  case measure => simp [intOf]; omega
                · have hpp : tameP ⟨f, t, p⟩ = p := by unfold tameP; exact if_neg (show ¬ (p < 0 ∨ 1000000 < p) by omega)
                  have HPP := Lib.hid hpp
                  clear hpp
                  have z00 : W0.cell? ⟨wr.heap.size, 0, none⟩ = some (.int .i64 (f)) := by simp [World.cell?, HG0.out]
                  have z10 : W0.cell? ⟨wr.heap.size, 1, none⟩ = some (.int .i64 (t)) := by simp [World.cell?, HG0.out]
                  have z20 : W0.cell? ⟨wr.heap.size, 2, none⟩ = some (.int .i64 (p)) := by simp [World.cell?, HG0.out]
                  have zf0 : ∀ k, W0.frozen? ⟨wr.heap.size, k, none⟩ = false := fun k => by simp [World.frozen?, HG0.out]
                  go_upto_region 11 with fail
                  clear z00 z10 z20 zf0
                  have z00 : W0.cell? ⟨wr.heap.size, 0, none⟩ = some (.int .i64 (f)) := by simp [World.cell?, HG0.out]
                  have z10 : W0.cell? ⟨wr.heap.size, 1, none⟩ = some (.int .i64 (t)) := by simp [World.cell?, HG0.out]
                  have z20 : W0.cell? ⟨wr.heap.size, 2, none⟩ = some (.int .i64 (p)) := by simp [World.cell?, HG0.out]
                  have zf0 : ∀ k, W0.frozen? ⟨wr.heap.size, k, none⟩ = false := fun k => by simp [World.frozen?, HG0.out]
                  have hy : tame1 (n : Int) ⟨f, t, p⟩ = ⟨f, t, p⟩ := by
                    show (⟨tameF ⟨f, t, p⟩ n, tameT ⟨f, t, p⟩ n, tameP ⟨f, t, p⟩⟩ : S47) = _
                    rw [HFT.out, HTT.out, HPP.out]
                  have HY := Lib.hid hy
                  have hsW := HBW0.out.size
                  have hOW := Lib.hid (Kd.R_below HO.out HBW0.out)
                  clear hy
                  try clear hs0
                  try clear hs1
                  try clear hs2
                  go_wp2_with (at_builtin; refine Kd.R_append k47 (w0 := w) w.heap.size rfl (.tmp 70) (.tmp 72) 22 47 (.agg #[(.int .i64 0), (.int .i64 0), (.int .i64 0)]) 24 rfl Try.underlying22 info47 rfl (by decide) (by omega) u7 (M.take q) (⟨f, t, p⟩ : S47) [.int .i64 (f), .int .i64 (t), .int .i64 (p)] (fun _ => True) (fun _ => False) rfl rfl ?aP (fun _ hk => hk.elim) (fun _ _ => trivial) ?aO ?aB ?aS ?aL ?_)
                  case aP => exact k47_mkM _ _ _ (⟨f, t, p⟩ : S47)
                  case aO => exact hOW.out
                  case aB => exact hB.trans (HBW0.out.mono (by omega))
                  case aS => omega
                  case aL => have h9 := HLEN.out; (try simp only [List.length_take] at h9 ⊢); omega
                  intro v1 w9 ho hb hg hat
                  have HO9 := Lib.hid ho
                  clear ho hg hat
                  clear z00 z10 z20 zf0
                  go_wp2_with fail
                  go_roundw
                  case rel => exact ⟨q + 1, by go_num, by omega, by omega, (by rw [HNX.out, HY.out]; exact HO9.out), hb⟩
                  case measure => simp [intOf]; omega
      · obtain rfl : q = most := by omega
        have hlm' : decide ((q : Int) < (q : Int)) = false := by simp
        have HO1 := HO
        have hlt' : (q : Int) < l.length := by omega
        clear hlm'
        go_wp2_with fail
        go_ret
        exact ⟨_, rfl, HO1.out, hB⟩
    · obtain rfl : q = l.length := by omega
      have e : M.take most = M.take l.length := by rw [List.take_of_length_le (by rw [HML.out]; exact hqm), List.take_of_length_le (by rw [HML.out]; exact Nat.le_refl _)]
      have HO1 : Hid (Kd.R k47 47 wr w.heap.size (fun _ => True) u7 (M.take most)) := Lib.hid (by rw [e]; exact HO.out)
      clear e
      go_wp2_with fail
      go_ret
      exact ⟨_, rfl, HO1.out, hB⟩
end Go.Proofs.Ytpjobcnfjpbaeaa.A

namespace Go.Proofs.Ytpjobcnfjpbaeaa.A
open Go.RowKit Go.Proofs.YtpjobcnfjpbaeaaW.PrintWords Go.Proofs.YtpjobcnfjpbaeaaW.PrintLast Go.Proofs.YtpjobcnfjpbaeaaW.PrintMore
open Go.Proofs.Ytpjobcnfjpbaeaa.PA Go.Proofs.Ytpjobcnfjpbaeaa.M
theorem ordF_rng {l : List S47} (h0 : 0 < l.length) : ∀ i, i ∈ ordF l → 0 ≤ i ∧ i < l.length := by
  obtain ⟨m, hm⟩ : ∃ m, l.length = m + 1 := ⟨l.length - 1, by omega⟩
  intro i hi
  rw [ordF_succ hm] at hi
  obtain ⟨j, _, rfl⟩ := List.mem_map.1 hi
  have := j.isLt
  omega
end Go.Proofs.Ytpjobcnfjpbaeaa.A

namespace Go.Proofs.Ytpjobcnfjpbaeaa.PA
open Go.RowKit Go.Proofs.YtpjobcnfjpbaeaaW.PrintWords Go.Proofs.YtpjobcnfjpbaeaaW.PrintLast Go.Proofs.YtpjobcnfjpbaeaaW.PrintMore
open Go.Proofs.Ytpjobcnfjpbaeaa.A Go.Proofs.Ytpjobcnfjpbaeaa.M
def rooms_Accept.f (k : Nat) (l0 : List S47) (l1 : List Int) : Option (List Int × List Int × Int × Int) :=
  if checkB l0 l1 then (bestF k l0 l1).bind fun x => some (x.1, x.2.1, x.2.2, 0) else some ([], [], 0, 2)
theorem rooms_Accept.calls (k : Nat) (A0 : Option Addr) (c0 : Nat) (l0 : List (S47)) (A1 : Option Addr) (c1 : Nat) (l1 : List Int) (r1 : List Int) (r2 : List Int) (r3 : Int) (r4 : Int) (w : World) (hr0 : Kd.C k47 w A0 l0.length l0) (hc0 : l0.length ≤ c0) (hr1 : Kd.C (Kd.int .i64) w A1 l1.length l1) (_hc1 : l1.length ≤ c1) (h : rooms_Accept.f k l0 l1 = some (r1, r2, r3, r4)) :
    Calls Try.prog 30 #[.slice A0 l0.length c0, .slice A1 l1.length c1] w fun e w' => ∃ v0_ v1_ : Value, e = .returned (.tuple #[.agg #[v0_, v1_], .int .i64 r3, .int .i64 r4]) ∧ Kd.R (Kd.int .i64) 3 w' w.heap.size (fun k_ => some k_ ≠ (v1_ : Value).ownBlock) v0_ r1 ∧ Kd.R (Kd.int .i64) 3 w' w.heap.size (fun k_ => some k_ ≠ (v0_ : Value).ownBlock) v1_ r2 ∧ Below w.heap.size w w' := by
  unfold rooms_Accept.f at h
  cases hcb : checkB l0 l1 with
  | false =>
    rw [hcb] at h
    simp only [Bool.false_eq_true, if_false, Option.some.injEq, Prod.mk.injEq] at h
    obtain ⟨rfl, rfl, rfl, rfl⟩ := h
    exact (Accept_no A0 c0 l0 A1 c1 l1 w hr0 hr1 hcb).mono fun e w' ⟨he, hb⟩ => ⟨_, _, he, Kd.R_nil _ _ _ _ _, Kd.R_nil _ _ _ _ _, hb⟩
  | true =>
    rw [hcb, if_pos rfl] at h
    obtain ⟨⟨tk, pr, n⟩, hx, h⟩ := Option.bind_eq_some_iff.1 h
    simp only [Option.some.injEq, Prod.mk.injEq] at h
    obtain ⟨rfl, rfl, rfl, rfl⟩ := h
    exact (Accept_c A0 c0 l0 A1 c1 k l1 tk pr n w hr0 hc0 hr1 (checkB_iff.1 hcb) hx).mono fun e w' ⟨v1, v2, he, h1, h2, hne, hb⟩ =>
      ⟨v1, v2, he, Kd.R_of_own h1 (fun k hk => fun he => hne k hk he.symm), Kd.R_of_own h2 (fun k hk => fun he => hne k he.symm hk), hb⟩
def rooms_Assign.f (l0 : List S47) : Option (List Int × Int × Int) :=
  if areB l0 then if l0.length ≤ 20 then some ((assignF l0 (ordF l0)).2, ((assignF l0 (ordF l0)).1.length : Int), 0) else none else some ([], 0, 2)
theorem rooms_Assign.calls (A0 : Option Addr) (c0 : Nat) (l0 : List (S47)) (r1 : List Int) (r2 : Int) (r3 : Int) (w : World) (hr0 : Kd.C k47 w A0 l0.length l0) (_hc0 : l0.length ≤ c0) (h : rooms_Assign.f l0 = some (r1, r2, r3)) :
    Calls Try.prog 31 #[.slice A0 l0.length c0] w fun e w' => ∃ v0_ : Value, e = .returned (.tuple #[v0_, .int .i64 r2, .int .i64 r3]) ∧ Kd.R (Kd.int .i64) 3 w' w.heap.size (fun _ => True) v0_ r1 ∧ Below w.heap.size w w' := by
  unfold rooms_Assign.f at h
  cases hcb : areB l0 with
  | false =>
    rw [hcb] at h
    simp only [Bool.false_eq_true, if_false, Option.some.injEq, Prod.mk.injEq] at h
    obtain ⟨rfl, rfl, rfl⟩ := h
    exact (Assign_no A0 c0 l0 w hr0 hcb).mono fun e w' ⟨he, hb⟩ => ⟨_, he, Kd.R_nil _ _ _ _ _, hb⟩
  | true =>
    rw [hcb, if_pos rfl] at h
    by_cases hl : l0.length ≤ 20
    · rw [if_pos hl] at h
      simp only [Option.some.injEq, Prod.mk.injEq] at h
      obtain ⟨rfl, rfl, rfl⟩ := h
      by_cases h0 : l0.length = 0
      · obtain rfl : l0 = [] := List.eq_nil_of_length_eq_zero h0
        exact Assign_nil A0 c0 w hr0
      · have h1 : 0 < l0.length := by omega
        obtain ⟨ad, rfl, _⟩ := hr0.2.2 h1
        exact Assign_yes ad c0 l0 (ordF l0) w hr0 hcb h1 (sort_small l0 hl h1) (ordF_rng h1)
    · rw [if_neg hl] at h
      cases h
def rooms_Busiest.f (k : Nat) (l0 : List S47) : Option (Int × Int × Int) := busiestF k l0
theorem rooms_Busiest.calls (k : Nat) (A0 : Option Addr) (c0 : Nat) (l0 : List (S47)) (r1 : Int) (r2 : Int) (r3 : Int) (w : World) (hr0 : Kd.C k47 w A0 l0.length l0) (hc0 : l0.length ≤ c0) (h : rooms_Busiest.f k l0 = some (r1, r2, r3)) :
    Calls Try.prog 34 #[.slice A0 l0.length c0] w fun e w' => e = .returned (.tuple #[.int .i64 r1, .int .i64 r2, .int .i64 r3]) ∧ Below w.heap.size w w' := Busiest_c A0 c0 l0 k r1 r2 r3 w hr0 hc0 h
def turndownlaw08_awake.f : Option Bool := some true
theorem turndownlaw08_awake.calls  (r : Bool) (w : World) (h : turndownlaw08_awake.f  = some r) :
    Calls Try.prog 20 #[] w fun e w' => e = .returned (.bool r) ∧ Below w.heap.size w w' := by
  obtain rfl := Option.some.inj h
  exact awake_c w
def turndownlaw08_tame.f (l0 : List (S47)) (a1 : Int) (a2 : Int) : Option (List S47) :=
  if 1 ≤ a1 ∧ a1 ≤ 1000 ∧ 0 ≤ a2 ∧ a2 ≤ 1000 then some ((l0.take a2.toNat).map (tame1 a1)) else none
theorem turndownlaw08_tame.calls (A0 : Option Addr) (c0 : Nat) (l0 : List (S47)) (a1 : Int) (a2 : Int) (r : List (S47)) (w : World) (hr0 : Kd.C k47 w A0 l0.length l0) (hc0 : l0.length ≤ c0) (h : turndownlaw08_tame.f l0 a1 a2 = some r) :
    Calls Try.prog 24 #[.slice A0 l0.length c0, .int .i64 a1, .int .i64 a2] w fun e w' => ∃ v0_ : Value, e = .returned (v0_) ∧ Kd.R k47 47 w' w.heap.size (fun _ => True) v0_ r ∧ Below w.heap.size w w' := by
  unfold turndownlaw08_tame.f at h
  by_cases hc : 1 ≤ a1 ∧ a1 ≤ 1000 ∧ 0 ≤ a2 ∧ a2 ≤ 1000
  · rw [if_pos hc] at h
    obtain rfl := Option.some.inj h
    obtain ⟨n, rfl⟩ := Int.eq_ofNat_of_zero_le (show 0 ≤ a1 by omega)
    obtain ⟨m, rfl⟩ := Int.eq_ofNat_of_zero_le hc.2.2.1
    exact tame_c A0 c0 l0 n m w hr0 hc0 (by omega) (by omega)
  · rw [if_neg hc] at h
    cases h
end Go.Proofs.Ytpjobcnfjpbaeaa.PA

namespace Go.Proofs.Ytpjobcnfjpbaeaa.PA
open Go.RowKit Go.Proofs.YtpjobcnfjpbaeaaW.PrintWords Go.Proofs.YtpjobcnfjpbaeaaW.PrintLast Go.Proofs.YtpjobcnfjpbaeaaW.PrintMore
attribute [local go_sem] max2_int min2_int max_two min_two max_three min_three max_four min_four
set_option linter.unusedVariables false
set_option linter.unusedSimpArgs false
def turndownlaw08_revenue.f (k : Nat) (l0 : List (S47)) (l1 : List Int) : Option (Int) := (rooms_Accept.f k l0 l1).bind fun bt230 => (if bt230.2.2.2 = 0 then (some bt230.2.2.1) else (some (-1)))
set_option maxHeartbeats 8000000 in
set_option maxRecDepth 100000 in
theorem turndownlaw08_revenue.calls (k : Nat) (A0 : Option Addr) (c0 : Nat) (l0 : List (S47)) (A1 : Option Addr) (c1 : Nat) (l1 : List Int) (r : Int) (w : World) (hr0 : Kd.C k47 w A0 l0.length l0) (hc0 : l0.length ≤ c0) (hr1 : Kd.C (Kd.int .i64) w A1 l1.length l1) (hc1 : l1.length ≤ c1) (h : turndownlaw08_revenue.f k l0 l1 = some r) :
    Calls Try.prog 25 #[.slice A0 l0.length c0, .slice A1 l1.length c1] w fun e w' => e = .returned (.int .i64 r) ∧ Below w.heap.size w w' := by
  have hu39 := Try.underlying39
  have HR0 := Aside0.mk hr0
  have HC0 := Aside0.mk hc0
  clear hr0 hc0
  have HR1 := Aside0.mk hr1
  have HC1 := Aside0.mk hc1
  clear hr1 hc1
  have HB := Aside0.mk (Below.refl w.heap.size w)
  have H : ((rooms_Accept.f k l0 l1).bind fun bt230 => (if bt230.2.2.2 = 0 then (some bt230.2.2.1) else (some (-1)))) = some r := h
  clear h
  replace H := Option.bind_eq_some_iff.mp H
  obtain ⟨⟨t230, t233, t236, t237⟩, A30, H⟩ := H
  replace H : (if t237 = 0 then (some t236) else (some (-1))) = some r := H
  have A3 := Aside0.mk A30
  clear A30
  by_cases c4 : t237 = 0
  · rw [if_pos c4] at H
    have c4b0 : (t237 == 0) = true := beq_iff_eq.mpr c4
    have c4b1 : (t237 != 0) = false := bne_eq_false_iff_eq.mpr c4
    clear c4
    obtain rfl := Option.some.inj H
    go_enter Try.func25, Try.ntmps25
    go_wp2_with (first | ((with_reducible refine gate_callee (f := 30) rfl ?_); refine goesL_ (some 11) rfl rfl Try.func30 (by kernel_rfl) rfl #[.slice A0 l0.length c0, .slice A1 l1.length c1] rfl (by (try simp only [List.map_toArray, List.map_cons, List.map_nil]); first | done | rfl | (simp only [List.length_drop, List.length_take]; rfl)) ?_; (with_reducible refine (rooms_Accept.calls k _ _ l0 _ _ l1 t230 t233 t236 t237 _ ?side1 ?side2 ?side3 ?side4 A3.out).mono ?_); (case side1 => repeat (first | exact HR0.out | (with_reducible refine Kd.C_alloc ?_ _) | (with_reducible refine Kd.C_drewN ?_ _) | (with_reducible refine Kd.C_drew ?_))); (case side2 => exact HC0.out); (case side3 => repeat (first | exact HR1.out | (with_reducible refine Kd.C_alloc ?_ _) | (with_reducible refine Kd.C_drewN ?_ _) | (with_reducible refine Kd.C_drew ?_))); (case side4 => exact HC1.out); rintro e w5 ⟨v231, v234, rfl, ho0, ho1, hb⟩; refine ⟨_, rfl, ?_⟩; have n0_ := Aside0.mk (Kd.R_lower ho0 (below_size (by repeat (first | (with_reducible first | exact HB.out | apply below_alloc | apply pw_below_drewN | apply below_drew1) | exact HB.out)))); have n1_ := Aside0.mk (Kd.R_lower ho1 (below_size (by repeat (first | (with_reducible first | exact HB.out | apply below_alloc | apply pw_below_drewN | apply below_drew1) | exact HB.out)))); have n2_ := Aside0.mk (below_step (by repeat (first | (with_reducible first | exact HB.out | apply below_alloc | apply pw_below_drewN | apply below_drew1) | exact HB.out)) hb); clear HB; have HO232 := n0_; have HO235 := n1_; have HB := n2_; clear n0_ n1_ n2_; (try clear hb); (try clear hb2); (try clear hk); (try clear hi); (try clear ho0); (try clear ho1)) | ((with_reducible refine gate_dst (N := 5) rfl ?_); refine box_event ?hg (N := 5) ?hd (cs := #[.slice none 0 0, .slice none 0 0]) (t := 39) ?hr ?_; (case hd => rfl); (case hg => rfl); (case hr => first | (go_simp; done) | (go_simp; rfl)); intro gb238 hg w6 hbox hb; have n0_ := Aside0.mk (Kd.R_below (by (with_reducible repeat (first | apply Kd.R_alloc | apply Kd.R_drewN | apply Kd.R_drew)); exact HO232.out) hb); have n1_ := Aside0.mk (Kd.R_below (by (with_reducible repeat (first | apply Kd.R_alloc | apply Kd.R_drewN | apply Kd.R_drew)); exact HO235.out) hb); have n2_ := Aside0.mk (below_step (by repeat (first | (with_reducible first | exact HB.out | apply below_alloc | apply pw_below_drewN | apply below_drew1) | exact HB.out)) hb); have n3_ := Aside0.mk (hbox); have n4_ := Aside0.mk ((by rw [hg]; exact (below_size (by repeat (first | (with_reducible first | exact HB.out | apply below_alloc | apply pw_below_drewN | apply below_drew1) | exact HB.out))) : w.heap.size ≤ gb238)); have n5_ := Aside0.mk ((by rw [hg]; exact (below_size (by repeat (first | (with_reducible first | exact HB.out | apply below_alloc | apply pw_below_drewN | apply below_drew1) | exact HB.out))) : w.heap.size ≤ gb238)); clear HO232; clear HO235; clear HB; have HO232 := n0_; have HO235 := n1_; have HB := n2_; have BK238 := n3_; have GW238 := n4_; have GE238 := n5_; clear n0_ n1_ n2_ n3_ n4_ n5_; clear hb hbox hg; obtain ⟨Ao7, co7, eo7⟩ := Kd.R_slice HO232.out; subst eo7; have hcz8_0 : w6.cell? ⟨gb238, 0, none⟩ = some (.slice none 0 0) := (blk_cell BK238.out 0).trans rfl; have hcz8_1 : w6.cell? ⟨gb238, 1, none⟩ = some (.slice none 0 0) := (blk_cell BK238.out 1).trans rfl; have hfz8_0 := blk_frozen BK238.out 0; have hfz8_1 := blk_frozen BK238.out 1; obtain ⟨Ao9, co9, eo9⟩ := Kd.R_slice HO235.out; subst eo9))
    go_ret
    exact ⟨by first | rfl | (simp [errW_none, errW_some] <;> rfl) | (simp [*, errW_none, errW_some] <;> rfl), by repeat (first | (with_reducible first | exact HB.out | apply below_alloc | apply pw_below_drewN | apply below_drew1 | refine below_set ?_ GE238.out) | exact HB.out)⟩
  · rw [if_neg c4] at H
    have c4b0 : (t237 == 0) = false := beq_eq_false_iff_ne.mpr c4
    have c4b1 : (t237 != 0) = true := bne_iff_ne.mpr c4
    obtain rfl := Option.some.inj H
    go_enter Try.func25, Try.ntmps25
    go_wp2_with (first | ((with_reducible refine gate_callee (f := 30) rfl ?_); refine goesL_ (some 11) rfl rfl Try.func30 (by kernel_rfl) rfl #[.slice A0 l0.length c0, .slice A1 l1.length c1] rfl (by (try simp only [List.map_toArray, List.map_cons, List.map_nil]); first | done | rfl | (simp only [List.length_drop, List.length_take]; rfl)) ?_; (with_reducible refine (rooms_Accept.calls k _ _ l0 _ _ l1 t230 t233 t236 t237 _ ?side1 ?side2 ?side3 ?side4 A3.out).mono ?_); (case side1 => repeat (first | exact HR0.out | (with_reducible refine Kd.C_alloc ?_ _) | (with_reducible refine Kd.C_drewN ?_ _) | (with_reducible refine Kd.C_drew ?_))); (case side2 => exact HC0.out); (case side3 => repeat (first | exact HR1.out | (with_reducible refine Kd.C_alloc ?_ _) | (with_reducible refine Kd.C_drewN ?_ _) | (with_reducible refine Kd.C_drew ?_))); (case side4 => exact HC1.out); rintro e w10 ⟨v231, v234, rfl, ho0, ho1, hb⟩; refine ⟨_, rfl, ?_⟩; have n0_ := Aside0.mk (Kd.R_lower ho0 (below_size (by repeat (first | (with_reducible first | exact HB.out | apply below_alloc | apply pw_below_drewN | apply below_drew1) | exact HB.out)))); have n1_ := Aside0.mk (Kd.R_lower ho1 (below_size (by repeat (first | (with_reducible first | exact HB.out | apply below_alloc | apply pw_below_drewN | apply below_drew1) | exact HB.out)))); have n2_ := Aside0.mk (below_step (by repeat (first | (with_reducible first | exact HB.out | apply below_alloc | apply pw_below_drewN | apply below_drew1) | exact HB.out)) hb); clear HB; have HO232 := n0_; have HO235 := n1_; have HB := n2_; clear n0_ n1_ n2_; (try clear hb); (try clear hb2); (try clear hk); (try clear hi); (try clear ho0); (try clear ho1)) | ((with_reducible refine gate_dst (N := 5) rfl ?_); refine box_event ?hg (N := 5) ?hd (cs := #[.slice none 0 0, .slice none 0 0]) (t := 39) ?hr ?_; (case hd => rfl); (case hg => rfl); (case hr => first | (go_simp; done) | (go_simp; rfl)); intro gb238 hg w11 hbox hb; have n0_ := Aside0.mk (Kd.R_below (by (with_reducible repeat (first | apply Kd.R_alloc | apply Kd.R_drewN | apply Kd.R_drew)); exact HO232.out) hb); have n1_ := Aside0.mk (Kd.R_below (by (with_reducible repeat (first | apply Kd.R_alloc | apply Kd.R_drewN | apply Kd.R_drew)); exact HO235.out) hb); have n2_ := Aside0.mk (below_step (by repeat (first | (with_reducible first | exact HB.out | apply below_alloc | apply pw_below_drewN | apply below_drew1) | exact HB.out)) hb); have n3_ := Aside0.mk (hbox); have n4_ := Aside0.mk ((by rw [hg]; exact (below_size (by repeat (first | (with_reducible first | exact HB.out | apply below_alloc | apply pw_below_drewN | apply below_drew1) | exact HB.out))) : w.heap.size ≤ gb238)); have n5_ := Aside0.mk ((by rw [hg]; exact (below_size (by repeat (first | (with_reducible first | exact HB.out | apply below_alloc | apply pw_below_drewN | apply below_drew1) | exact HB.out))) : w.heap.size ≤ gb238)); clear HO232; clear HO235; clear HB; have HO232 := n0_; have HO235 := n1_; have HB := n2_; have BK238 := n3_; have GW238 := n4_; have GE238 := n5_; clear n0_ n1_ n2_ n3_ n4_ n5_; clear hb hbox hg; obtain ⟨Ao12, co12, eo12⟩ := Kd.R_slice HO232.out; subst eo12; have hcz13_0 : w11.cell? ⟨gb238, 0, none⟩ = some (.slice none 0 0) := (blk_cell BK238.out 0).trans rfl; have hcz13_1 : w11.cell? ⟨gb238, 1, none⟩ = some (.slice none 0 0) := (blk_cell BK238.out 1).trans rfl; have hfz13_0 := blk_frozen BK238.out 0; have hfz13_1 := blk_frozen BK238.out 1; obtain ⟨Ao14, co14, eo14⟩ := Kd.R_slice HO235.out; subst eo14))
    go_ret
    exact ⟨by first | rfl | (simp [errW_none, errW_some] <;> rfl) | (simp [*, errW_none, errW_some] <;> rfl), by repeat (first | (with_reducible first | exact HB.out | apply below_alloc | apply pw_below_drewN | apply below_drew1 | refine below_set ?_ GE238.out) | exact HB.out)⟩
end Go.Proofs.Ytpjobcnfjpbaeaa.PA

namespace Go.Proofs.Ytpjobcnfjpbaeaa.PA
open Go.RowKit Go.Proofs.YtpjobcnfjpbaeaaW.PrintWords Go.Proofs.YtpjobcnfjpbaeaaW.PrintLast Go.Proofs.YtpjobcnfjpbaeaaW.PrintMore
attribute [local go_sem] max2_int min2_int max_two min_two max_three min_three max_four min_four
set_option linter.unusedVariables false
set_option linter.unusedSimpArgs false
def turndownref08_meets.f (a0_0 : Int) (a0_1 : Int) (a0_2 : Int) (a1_0 : Int) (a1_1 : Int) (a1_2 : Int) : Option (Bool) := if a0_0 < a1_1 then (some (decide (a1_0 < a0_1))) else (some false)
set_option maxHeartbeats 8000000 in
set_option maxRecDepth 100000 in
theorem turndownref08_meets.calls (a0_0 : Int) (a0_1 : Int) (a0_2 : Int) (a1_0 : Int) (a1_1 : Int) (a1_2 : Int) (r : Bool) (w : World) (h : turndownref08_meets.f a0_0 a0_1 a0_2 a1_0 a1_1 a1_2 = some r) :
    Calls Try.prog 54 #[.agg #[.int .i64 a0_0, .int .i64 a0_1, .int .i64 a0_2], .agg #[.int .i64 a1_0, .int .i64 a1_1, .int .i64 a1_2]] w fun e w' => e = .returned (.bool r) ∧ Below w.heap.size w w' := by
  have hu47 := Try.underlying47
  have HB := Aside0.mk (Below.refl w.heap.size w)
  have H : (if a0_0 < a1_1 then (some (decide (a1_0 < a0_1))) else (some false)) = some r := h
  clear h
  by_cases c3 : a0_0 < a1_1
  · rw [if_pos c3] at H
    have c3b0 : decide (a0_0 < a1_1) = true := decide_eq_true c3
    clear c3
    obtain rfl := Option.some.inj H
    go_enter Try.func54, Try.ntmps54
    go_wp2_with (first | ((with_reducible refine gate_dst (N := 2) rfl ?_); refine box_event ?hg (N := 2) ?hd (cs := #[.int .i64 a0_0, .int .i64 a0_1, .int .i64 a0_2]) (t := 47) ?hr ?_; (case hd => rfl); (case hg => rfl); (case hr => first | (go_simp; done) | (go_simp; rfl)); intro gb375 hg w4 hbox hb; have n0_ := Aside0.mk (below_step (by repeat (first | (with_reducible first | exact HB.out | apply below_alloc | apply pw_below_drewN | apply below_drew1) | exact HB.out)) hb); have n1_ := Aside0.mk (hbox); have n2_ := Aside0.mk ((by rw [hg]; exact (below_size (by repeat (first | (with_reducible first | exact HB.out | apply below_alloc | apply pw_below_drewN | apply below_drew1) | exact HB.out))) : w.heap.size ≤ gb375)); have n3_ := Aside0.mk ((by rw [hg]; exact (below_size (by repeat (first | (with_reducible first | exact HB.out | apply below_alloc | apply pw_below_drewN | apply below_drew1) | exact HB.out))) : w.heap.size ≤ gb375)); clear HB; have HB := n0_; have BK375 := n1_; have GW375 := n2_; have GE375 := n3_; clear n0_ n1_ n2_ n3_; clear hb hbox hg) | ((with_reducible refine gate_dst (N := 3) rfl ?_); refine box_event ?hg (N := 3) ?hd (cs := #[.int .i64 a1_0, .int .i64 a1_1, .int .i64 a1_2]) (t := 47) ?hr ?_; (case hd => rfl); (case hg => rfl); (case hr => first | (go_simp; done) | (go_simp; rfl)); intro gb376 hg w5 hbox hb; have n0_ := Aside0.mk (blk_below (g := gb375) (o := .cells #[.int .i64 a0_0, .int .i64 a0_1, .int .i64 a0_2] 47 (0, 0)) (by (with_reducible repeat (first | refine blk_drewN ?_ _ | refine blk_drew ?_ | refine blk_alloc ?_ _)); exact BK375.out) hb); have n1_ := Aside0.mk (below_step (by repeat (first | (with_reducible first | exact HB.out | apply below_alloc | apply pw_below_drewN | apply below_drew1 | refine below_set ?_ GE375.out) | exact HB.out)) hb); have n2_ := Aside0.mk (hbox); have n3_ := Aside0.mk ((by rw [hg]; exact (below_size (by repeat (first | (with_reducible first | exact HB.out | apply below_alloc | apply pw_below_drewN | apply below_drew1 | refine below_set ?_ GE375.out) | exact HB.out))) : w.heap.size ≤ gb376)); have n4_ := Aside0.mk ((by rw [hg]; exact (below_size (by repeat (first | (with_reducible first | exact HB.out | apply below_alloc | apply pw_below_drewN | apply below_drew1 | refine below_set ?_ GE375.out) | exact HB.out))) : w.heap.size ≤ gb376)); have n5_ := Aside0.mk ((by rw [hg]; exact Nat.ne_of_lt (blk_lt (g := gb375) (o := .cells #[.int .i64 a0_0, .int .i64 a0_1, .int .i64 a0_2] 47 (0, 0)) (by (with_reducible repeat (first | refine blk_drewN ?_ _ | refine blk_drew ?_ | refine blk_alloc ?_ _)); exact BK375.out)) : gb375 ≠ gb376)); have n6_ := Aside0.mk ((by rw [hg]; exact Nat.ne_of_gt (blk_lt (g := gb375) (o := .cells #[.int .i64 a0_0, .int .i64 a0_1, .int .i64 a0_2] 47 (0, 0)) (by (with_reducible repeat (first | refine blk_drewN ?_ _ | refine blk_drew ?_ | refine blk_alloc ?_ _)); exact BK375.out)) : gb376 ≠ gb375)); clear BK375; clear HB; have BK375 := n0_; have HB := n1_; have BK376 := n2_; have GW376 := n3_; have GE376 := n4_; have NB375_376 := n5_; have NB376_375 := n6_; clear n0_ n1_ n2_ n3_ n4_ n5_ n6_; clear hb hbox hg; have hnb6 := NB375_376.out; have hnc6 := NB376_375.out; have hcz7_0 : w5.cell? ⟨gb375, 0, none⟩ = some (.int .i64 a0_0) := (blk_cell BK375.out 0).trans rfl; have hcz7_1 : w5.cell? ⟨gb375, 1, none⟩ = some (.int .i64 a0_1) := (blk_cell BK375.out 1).trans rfl; have hcz7_2 : w5.cell? ⟨gb375, 2, none⟩ = some (.int .i64 a0_2) := (blk_cell BK375.out 2).trans rfl; have hfz7_0 := blk_frozen BK375.out 0; have hfz7_1 := blk_frozen BK375.out 1; have hfz7_2 := blk_frozen BK375.out 2; have hcz8_0 : w5.cell? ⟨gb376, 0, none⟩ = some (.int .i64 a1_0) := (blk_cell BK376.out 0).trans rfl; have hcz8_1 : w5.cell? ⟨gb376, 1, none⟩ = some (.int .i64 a1_1) := (blk_cell BK376.out 1).trans rfl; have hcz8_2 : w5.cell? ⟨gb376, 2, none⟩ = some (.int .i64 a1_2) := (blk_cell BK376.out 2).trans rfl; have hfz8_0 := blk_frozen BK376.out 0; have hfz8_1 := blk_frozen BK376.out 1; have hfz8_2 := blk_frozen BK376.out 2))
    go_ret
    exact ⟨by first | rfl | (simp [errW_none, errW_some] <;> rfl) | (simp [*, errW_none, errW_some] <;> rfl), by repeat (first | (with_reducible first | exact HB.out | apply below_alloc | apply pw_below_drewN | apply below_drew1 | refine below_set ?_ GE375.out | refine below_set ?_ GE376.out) | exact HB.out)⟩
  · rw [if_neg c3] at H
    have c3b0 : decide (a0_0 < a1_1) = false := decide_eq_false c3
    clear c3
    obtain rfl := Option.some.inj H
    go_enter Try.func54, Try.ntmps54
    go_wp2_with (first | ((with_reducible refine gate_dst (N := 2) rfl ?_); refine box_event ?hg (N := 2) ?hd (cs := #[.int .i64 a0_0, .int .i64 a0_1, .int .i64 a0_2]) (t := 47) ?hr ?_; (case hd => rfl); (case hg => rfl); (case hr => first | (go_simp; done) | (go_simp; rfl)); intro gb375 hg w9 hbox hb; have n0_ := Aside0.mk (below_step (by repeat (first | (with_reducible first | exact HB.out | apply below_alloc | apply pw_below_drewN | apply below_drew1) | exact HB.out)) hb); have n1_ := Aside0.mk (hbox); have n2_ := Aside0.mk ((by rw [hg]; exact (below_size (by repeat (first | (with_reducible first | exact HB.out | apply below_alloc | apply pw_below_drewN | apply below_drew1) | exact HB.out))) : w.heap.size ≤ gb375)); have n3_ := Aside0.mk ((by rw [hg]; exact (below_size (by repeat (first | (with_reducible first | exact HB.out | apply below_alloc | apply pw_below_drewN | apply below_drew1) | exact HB.out))) : w.heap.size ≤ gb375)); clear HB; have HB := n0_; have BK375 := n1_; have GW375 := n2_; have GE375 := n3_; clear n0_ n1_ n2_ n3_; clear hb hbox hg) | ((with_reducible refine gate_dst (N := 3) rfl ?_); refine box_event ?hg (N := 3) ?hd (cs := #[.int .i64 a1_0, .int .i64 a1_1, .int .i64 a1_2]) (t := 47) ?hr ?_; (case hd => rfl); (case hg => rfl); (case hr => first | (go_simp; done) | (go_simp; rfl)); intro gb376 hg w10 hbox hb; have n0_ := Aside0.mk (blk_below (g := gb375) (o := .cells #[.int .i64 a0_0, .int .i64 a0_1, .int .i64 a0_2] 47 (0, 0)) (by (with_reducible repeat (first | refine blk_drewN ?_ _ | refine blk_drew ?_ | refine blk_alloc ?_ _)); exact BK375.out) hb); have n1_ := Aside0.mk (below_step (by repeat (first | (with_reducible first | exact HB.out | apply below_alloc | apply pw_below_drewN | apply below_drew1 | refine below_set ?_ GE375.out) | exact HB.out)) hb); have n2_ := Aside0.mk (hbox); have n3_ := Aside0.mk ((by rw [hg]; exact (below_size (by repeat (first | (with_reducible first | exact HB.out | apply below_alloc | apply pw_below_drewN | apply below_drew1 | refine below_set ?_ GE375.out) | exact HB.out))) : w.heap.size ≤ gb376)); have n4_ := Aside0.mk ((by rw [hg]; exact (below_size (by repeat (first | (with_reducible first | exact HB.out | apply below_alloc | apply pw_below_drewN | apply below_drew1 | refine below_set ?_ GE375.out) | exact HB.out))) : w.heap.size ≤ gb376)); have n5_ := Aside0.mk ((by rw [hg]; exact Nat.ne_of_lt (blk_lt (g := gb375) (o := .cells #[.int .i64 a0_0, .int .i64 a0_1, .int .i64 a0_2] 47 (0, 0)) (by (with_reducible repeat (first | refine blk_drewN ?_ _ | refine blk_drew ?_ | refine blk_alloc ?_ _)); exact BK375.out)) : gb375 ≠ gb376)); have n6_ := Aside0.mk ((by rw [hg]; exact Nat.ne_of_gt (blk_lt (g := gb375) (o := .cells #[.int .i64 a0_0, .int .i64 a0_1, .int .i64 a0_2] 47 (0, 0)) (by (with_reducible repeat (first | refine blk_drewN ?_ _ | refine blk_drew ?_ | refine blk_alloc ?_ _)); exact BK375.out)) : gb376 ≠ gb375)); clear BK375; clear HB; have BK375 := n0_; have HB := n1_; have BK376 := n2_; have GW376 := n3_; have GE376 := n4_; have NB375_376 := n5_; have NB376_375 := n6_; clear n0_ n1_ n2_ n3_ n4_ n5_ n6_; clear hb hbox hg; have hnb11 := NB375_376.out; have hnc11 := NB376_375.out; have hcz12_0 : w10.cell? ⟨gb375, 0, none⟩ = some (.int .i64 a0_0) := (blk_cell BK375.out 0).trans rfl; have hcz12_1 : w10.cell? ⟨gb375, 1, none⟩ = some (.int .i64 a0_1) := (blk_cell BK375.out 1).trans rfl; have hcz12_2 : w10.cell? ⟨gb375, 2, none⟩ = some (.int .i64 a0_2) := (blk_cell BK375.out 2).trans rfl; have hfz12_0 := blk_frozen BK375.out 0; have hfz12_1 := blk_frozen BK375.out 1; have hfz12_2 := blk_frozen BK375.out 2; have hcz13_0 : w10.cell? ⟨gb376, 0, none⟩ = some (.int .i64 a1_0) := (blk_cell BK376.out 0).trans rfl; have hcz13_1 : w10.cell? ⟨gb376, 1, none⟩ = some (.int .i64 a1_1) := (blk_cell BK376.out 1).trans rfl; have hcz13_2 : w10.cell? ⟨gb376, 2, none⟩ = some (.int .i64 a1_2) := (blk_cell BK376.out 2).trans rfl; have hfz13_0 := blk_frozen BK376.out 0; have hfz13_1 := blk_frozen BK376.out 1; have hfz13_2 := blk_frozen BK376.out 2))
    go_ret
    exact ⟨by first | rfl | (simp [errW_none, errW_some] <;> rfl) | (simp [*, errW_none, errW_some] <;> rfl), by repeat (first | (with_reducible first | exact HB.out | apply below_alloc | apply pw_below_drewN | apply below_drew1 | refine below_set ?_ GE375.out | refine below_set ?_ GE376.out) | exact HB.out)⟩
end Go.Proofs.Ytpjobcnfjpbaeaa.PA

namespace Go.Proofs.Ytpjobcnfjpbaeaa.PA
open Go.RowKit Go.Proofs.YtpjobcnfjpbaeaaW.PrintWords Go.Proofs.YtpjobcnfjpbaeaaW.PrintLast Go.Proofs.YtpjobcnfjpbaeaaW.PrintMore
attribute [local go_sem] max2_int min2_int max_two min_two max_three min_three max_four min_four
set_option linter.unusedVariables false
set_option linter.unusedSimpArgs false
mutual
def turndownref08_Assigned.l0 : Nat → List (S47) → List Int → Int → Option (Bool)
  | 0, _, _, _ => none
  | k + 1, x0, x1, x5 => if x5 < (x0.length : Int) then (if 0 ≤ x5 then (if x5 < (x1.length : Int) then (if (rd x1 x5) < 0 then (some false) else (turndownref08_Assigned.l1 k x0 x1 x5 0)) else (none)) else (none)) else (some true)
def turndownref08_Assigned.l1 : Nat → List (S47) → List Int → Int → Int → Option (Bool)
  | 0, _, _, _, _ => none
  | k + 1, x0, x1, x5, x6 => if x6 < x5 then (if 0 ≤ x6 then (if x6 < (x1.length : Int) then (if 0 ≤ x5 then (if x5 < (x1.length : Int) then (if (rd x1 x6) = (rd x1 x5) then (if x6 < (x0.length : Int) then (if x5 < (x0.length : Int) then ((turndownref08_meets.f ((rd_T47 x0 x6).f0) ((rd_T47 x0 x6).f1) ((rd_T47 x0 x6).f2) ((rd_T47 x0 x5).f0) ((rd_T47 x0 x5).f1) ((rd_T47 x0 x5).f2)).bind fun t419 => (if t419 = true then (some false) else (turndownref08_Assigned.l1 k x0 x1 x5 (wrap64 (x6 + 1))))) else (none)) else (none)) else (turndownref08_Assigned.l1 k x0 x1 x5 (wrap64 (x6 + 1)))) else (none)) else (none)) else (none)) else (none)) else (turndownref08_Assigned.l0 k x0 x1 (wrap64 (x5 + 1)))
end
def turndownref08_Assigned.f (k : Nat) (l0 : List (S47)) (l1 : List Int) : Option (Bool) := if (l1.length : Int) = (l0.length : Int) then (turndownref08_Assigned.l0 k l0 l1 0) else (some false)
def turndownref08_Assigned.T11 : Bool × List (List Nat × List Nat) := (true, [([], []), ([], []), ([0, 1], [0, 1]), ([2], [2]), ([], []), ([], []), ([4, 5], [4, 5]), ([6], [6]), ([3, 7], [3, 7]), ([8], [8]), ([9], [9]), ([9], [9]), ([10, 11, 9], [9, 10, 11]), ([12, 9], [9, 12]), ([9], [9]), ([9], [9]), ([14, 15, 9], [9, 14, 15]), ([16, 9], [9, 16]), ([13, 17, 9, 9], [9, 13, 17]), ([9, 18], [9, 18])])
def turndownref08_Assigned.B11 : List Nat := [0, 0, 3, 7, 0, 0, 48, 112, 255, 511, 1023, 1023, 4095, 8191, 1023, 1023, 50175, 115711, 262143, 524287]
theorem turndownref08_Assigned.tab11 : rtab .any (opsOf Try.f37 11) = turndownref08_Assigned.T11 := by kernel_rfl
theorem turndownref08_Assigned.bits11 : waitsOk turndownref08_Assigned.T11.2 turndownref08_Assigned.B11 = true := by kernel_rfl
set_option maxHeartbeats 8000000 in
set_option maxRecDepth 100000 in
theorem turndownref08_Assigned.calls (k : Nat) (A0 : Option Addr) (c0 : Nat) (l0 : List (S47)) (A1 : Option Addr) (c1 : Nat) (l1 : List Int) (r : Bool) (w : World) (hr0 : Kd.C k47 w A0 l0.length l0) (hc0 : l0.length ≤ c0) (hr1 : Kd.C (Kd.int .i64) w A1 l1.length l1) (hc1 : l1.length ≤ c1) (h : turndownref08_Assigned.f k l0 l1 = some r) :
    Calls Try.prog 37 #[.slice A0 l0.length c0, .slice A1 l1.length c1] w fun e w' => e = .returned (.bool r) ∧ Below w.heap.size w w' := by
  have hu47 := Try.underlying47
  have HR0 := Aside0.mk hr0
  have HC0 := Aside0.mk hc0
  clear hr0 hc0
  have HR1 := Aside0.mk hr1
  have HC1 := Aside0.mk hc1
  clear hr1 hc1
  have HB := Aside0.mk (Below.refl w.heap.size w)
  have H : (if (l1.length : Int) = (l0.length : Int) then (turndownref08_Assigned.l0 k l0 l1 0) else (some false)) = some r := h
  clear h
  by_cases c3 : (l1.length : Int) = (l0.length : Int)
  · rw [if_pos c3] at H
    have c3b0 : ((l1.length : Int) == (l0.length : Int)) = true := beq_iff_eq.mpr c3
    have c3b1 : ((l1.length : Int) != (l0.length : Int)) = false := bne_eq_false_iff_eq.mpr c3
    have c3b2 : (l1.length == l0.length) = true := by first | simpa using c3 | (simp at c3 ⊢; omega)
    clear c3
    have H' := Aside0.mk H
    clear H
    go_enter Try.func37, Try.ntmps37
    go_wp2
    go_loopg [5] k (fun kq v5 w' => ∃ (x5_1 : Int), v5 = .int .i64 x5_1 ∧ Aside0 (turndownref08_Assigned.l0 kq l0 l1 x5_1 = some r) ∧ Aside0 (kq ≤ k) ∧ Aside0 (Below w.heap.size w w'))
    case atStart => exact ⟨(0), (by first | rfl | (simp; done) | (simp [*]; done)), H', ⟨Nat.le_refl _⟩, ⟨by repeat (first | (with_reducible first | exact HB.out | apply below_alloc | apply pw_below_drewN | apply below_drew1) | exact HB.out)⟩⟩
    case round =>
      clear H'
      try clear c1
      try clear p2
      try clear c3
      try clear c3b0
      try clear c3b1
      try clear c3b2
      obtain ⟨x5_1, rfl, HA, HK1, HB⟩ := hrel
      cases gk with
      | zero => exact absurd HA.out (by simp [turndownref08_Assigned.l0])
      | succ k1 =>
        have H := HA.out
        clear HA
        simp only [turndownref08_Assigned.l0] at H
        by_cases c4 : x5_1 < (l0.length : Int)
        · rw [if_pos c4] at H
          have c4b0 : decide (x5_1 < (l0.length : Int)) = true := decide_eq_true c4
          clear c4
          by_cases c5 : 0 ≤ x5_1
          · rw [if_pos c5] at H
            have c5b0 : decide (0 ≤ x5_1) = true := decide_eq_true c5
            clear c5
            by_cases c6 : x5_1 < (l1.length : Int)
            · rw [if_pos c6] at H
              have c6b0 : decide (x5_1 < (l1.length : Int)) = true := decide_eq_true c6
              clear c6
              by_cases c7 : (rd l1 x5_1) < 0
              · rw [if_pos c7] at H
                have c7b0 : decide ((rd l1 x5_1) < 0) = true := decide_eq_true c7
                clear c7
                obtain rfl := Option.some.inj H
                have p414 : 0 ≤ (x5_1 : Int) := of_decide_eq_true (by first | (with_reducible assumption) | assumption)
                have q414 : x5_1 < (l1.length : Int) := of_decide_eq_true (by first | (with_reducible assumption) | assumption)
                obtain ⟨ad414, e414, hx414_0⟩ := Kd.at_int HR1.out x5_1 p414 q414
                cases e414
                replace hx414_0 := (HB.out.cell (World.block_lt_of_cell? w _ hx414_0)).trans hx414_0
                replace p414 := eq_true p414
                replace q414 := eq_true q414
                go_wp2
                go_ret
                exact ⟨by first | rfl | (simp [errW_none, errW_some] <;> rfl) | (simp [*, errW_none, errW_some] <;> rfl), by repeat (first | (with_reducible first | exact HB.out | apply below_alloc | apply pw_below_drewN | apply below_drew1) | exact HB.out)⟩
              · rw [if_neg c7] at H
                have c7b0 : decide ((rd l1 x5_1) < 0) = false := decide_eq_false c7
                clear c7
                have H' := Aside0.mk H
                clear H
                have p414 : 0 ≤ (x5_1 : Int) := of_decide_eq_true (by first | (with_reducible assumption) | assumption)
                have q414 : x5_1 < (l1.length : Int) := of_decide_eq_true (by first | (with_reducible assumption) | assumption)
                obtain ⟨ad414, e414, hx414_0⟩ := Kd.at_int HR1.out x5_1 p414 q414
                cases e414
                replace hx414_0 := (HB.out.cell (World.block_lt_of_cell? w _ hx414_0)).trans hx414_0
                replace p414 := eq_true p414
                replace q414 := eq_true q414
                go_wp2
                go_loopg [6] k1 (fun kq v6 w' => ∃ (x6_2 : Int), v6 = .int .i64 x6_2 ∧ Aside0 (turndownref08_Assigned.l1 kq l0 l1 x5_1 x6_2 = some r) ∧ Aside0 (kq ≤ k1) ∧ Aside0 (Below w.heap.size w w'))
                case atStart => exact ⟨(0), (by first | rfl | (simp; done) | (simp [*]; done)), H', ⟨Nat.le_refl _⟩, ⟨by repeat (first | (with_reducible first | exact HB.out | apply below_alloc | apply pw_below_drewN | apply below_drew1) | exact HB.out)⟩⟩
                case round =>
                  clear H'
                  try clear c1
                  try clear p2
                  try clear c3
                  try clear c3b0
                  try clear c3b1
                  try clear c3b2
                  try clear c4
                  try clear c4b0
                  try clear p4
                  try clear q4
                  try clear hx4
                  try clear c5
                  try clear c5b0
                  try clear c6
                  try clear c6b0
                  try clear c7
                  try clear c7b0
                  try clear hx414_0
                  try clear p2
                  try clear p414
                  try clear q414
                  obtain ⟨x6_2, rfl, HA, HK2, HB⟩ := hrel
                  cases gk with
                  | zero => exact absurd HA.out (by simp [turndownref08_Assigned.l1])
                  | succ k2 =>
                    have H := HA.out
                    clear HA
                    simp only [turndownref08_Assigned.l1] at H
                    by_cases c8 : x6_2 < x5_1
                    · rw [if_pos c8] at H
                      have c8b0 : decide (x6_2 < x5_1) = true := decide_eq_true c8
                      clear c8
                      by_cases c9 : 0 ≤ x6_2
                      · rw [if_pos c9] at H
                        have c9b0 : decide (0 ≤ x6_2) = true := decide_eq_true c9
                        clear c9
                        by_cases c10 : x6_2 < (l1.length : Int)
                        · rw [if_pos c10] at H
                          have c10b0 : decide (x6_2 < (l1.length : Int)) = true := decide_eq_true c10
                          clear c10
                          by_cases c11 : 0 ≤ x5_1
                          · rw [if_pos c11] at H
                            have c11b0 : decide (0 ≤ x5_1) = true := decide_eq_true c11
                            clear c11
                            by_cases c12 : x5_1 < (l1.length : Int)
                            · rw [if_pos c12] at H
                              have c12b0 : decide (x5_1 < (l1.length : Int)) = true := decide_eq_true c12
                              clear c12
                              by_cases c13 : (rd l1 x6_2) = (rd l1 x5_1)
                              · rw [if_pos c13] at H
                                have c13b0 : ((rd l1 x6_2) == (rd l1 x5_1)) = true := beq_iff_eq.mpr c13
                                have c13b1 : ((rd l1 x6_2) != (rd l1 x5_1)) = false := bne_eq_false_iff_eq.mpr c13
                                clear c13
                                by_cases c14 : x6_2 < (l0.length : Int)
                                · rw [if_pos c14] at H
                                  have c14b0 : decide (x6_2 < (l0.length : Int)) = true := decide_eq_true c14
                                  clear c14
                                  by_cases c15 : x5_1 < (l0.length : Int)
                                  · rw [if_pos c15] at H
                                    have c15b0 : decide (x5_1 < (l0.length : Int)) = true := decide_eq_true c15
                                    clear c15
                                    replace H := Option.bind_eq_some_iff.mp H
                                    obtain ⟨t419, A160, H⟩ := H
                                    replace H : (if t419 = true then (some false) else (turndownref08_Assigned.l1 k2 l0 l1 x5_1 (wrap64 (x6_2 + 1)))) = some r := H
                                    have A16 := Aside0.mk A160
                                    clear A160
                                    by_cases c17 : t419 = true
                                    · subst c17
                                      have H1 : (some false) = some r := by rw [if_pos rfl] at H; exact H
                                      clear H
                                      have H := H1
                                      clear H1
                                      obtain rfl := Option.some.inj H
                                      try go_wp2
                                      have n0_ := Aside0.mk (below_drew1 HB.out)
                                      clear HB
                                      have HB := n0_
                                      clear n0_
                                      have p415 : 0 ≤ (x6_2 : Int) := of_decide_eq_true (by first | (with_reducible assumption) | assumption)
                                      have q415 : x6_2 < (l1.length : Int) := of_decide_eq_true (by first | (with_reducible assumption) | assumption)
                                      obtain ⟨ad415, e415, hx415_0⟩ := Kd.at_int HR1.out x6_2 p415 q415
                                      have hw415_0 := hx415_0
                                      obtain rfl : ad414 = ad415 := (by injection e415)
                                      replace hx415_0 := (HB.out.cell (World.block_lt_of_cell? w _ hx415_0)).trans hx415_0
                                      replace p415 := eq_true p415
                                      replace q415 := eq_true q415
                                      have p416 : 0 ≤ (x5_1 : Int) := of_decide_eq_true (by first | (with_reducible assumption) | assumption)
                                      have q416 : x5_1 < (l1.length : Int) := of_decide_eq_true (by first | (with_reducible assumption) | assumption)
                                      obtain ⟨ad416, e416, hx416_0⟩ := Kd.at_int HR1.out x5_1 p416 q416
                                      have hw416_0 := hx416_0
                                      obtain rfl : ad414 = ad416 := (by injection e416)
                                      replace hx416_0 := (HB.out.cell (World.block_lt_of_cell? w _ hx416_0)).trans hx416_0
                                      replace p416 := eq_true p416
                                      replace q416 := eq_true q416
                                      have p417 : 0 ≤ (x6_2 : Int) := of_decide_eq_true (by first | (with_reducible assumption) | assumption)
                                      have q417 : x6_2 < (l0.length : Int) := of_decide_eq_true (by first | (with_reducible assumption) | assumption)
                                      obtain ⟨ad417, e417, hx417_0, hx417_1, hx417_2⟩ := at_T47 HR0.out x6_2 p417 q417
                                      have hw417_2 := hx417_2
                                      have hw417_1 := hx417_1
                                      have hw417_0 := hx417_0
                                      cases e417
                                      replace hx417_0 := (HB.out.cell (World.block_lt_of_cell? w _ hx417_0)).trans hx417_0
                                      replace hx417_1 := (HB.out.cell (World.block_lt_of_cell? w _ hx417_1)).trans hx417_1
                                      replace hx417_2 := (HB.out.cell (World.block_lt_of_cell? w _ hx417_2)).trans hx417_2
                                      replace p417 := eq_true p417
                                      replace q417 := eq_true q417
                                      have p418 : 0 ≤ (x5_1 : Int) := of_decide_eq_true (by first | (with_reducible assumption) | assumption)
                                      have q418 : x5_1 < (l0.length : Int) := of_decide_eq_true (by first | (with_reducible assumption) | assumption)
                                      obtain ⟨ad418, e418, hx418_0, hx418_1, hx418_2⟩ := at_T47 HR0.out x5_1 p418 q418
                                      have hw418_2 := hx418_2
                                      have hw418_1 := hx418_1
                                      have hw418_0 := hx418_0
                                      obtain rfl : ad417 = ad418 := (by injection e418)
                                      replace hx418_0 := (HB.out.cell (World.block_lt_of_cell? w _ hx418_0)).trans hx418_0
                                      replace hx418_1 := (HB.out.cell (World.block_lt_of_cell? w _ hx418_1)).trans hx418_1
                                      replace hx418_2 := (HB.out.cell (World.block_lt_of_cell? w _ hx418_2)).trans hx418_2
                                      replace p418 := eq_true p418
                                      replace q418 := eq_true q418
                                      refine start_ (n := 20) (S := fun w' => w'.cell? (ad414.add (x6_2).toNat) = some (.int .i64 (rd l1 x6_2)) ∧ w'.cell? (ad414.add (x5_1).toNat) = some (.int .i64 (rd l1 x5_1)) ∧ w'.cell? (ad417.add ((x6_2).toNat * 3)) = some (.int .i64 ((rd_T47 l0 x6_2).f0)) ∧ w'.cell? ⟨(ad417.add ((x6_2).toNat * 3)).block, (ad417.add ((x6_2).toNat * 3)).off + 1, none⟩ = some (.int .i64 ((rd_T47 l0 x6_2).f1)) ∧ w'.cell? ⟨(ad417.add ((x6_2).toNat * 3)).block, (ad417.add ((x6_2).toNat * 3)).off + 2, none⟩ = some (.int .i64 ((rd_T47 l0 x6_2).f2)) ∧ w'.cell? (ad417.add ((x5_1).toNat * 3)) = some (.int .i64 ((rd_T47 l0 x5_1).f0)) ∧ w'.cell? ⟨(ad417.add ((x5_1).toNat * 3)).block, (ad417.add ((x5_1).toNat * 3)).off + 1, none⟩ = some (.int .i64 ((rd_T47 l0 x5_1).f1)) ∧ w'.cell? ⟨(ad417.add ((x5_1).toNat * 3)).block, (ad417.add ((x5_1).toNat * 3)).off + 2, none⟩ = some (.int .i64 ((rd_T47 l0 x5_1).f2))) (ds := []) #[false, false, false, false, false, false, false, false, false, false, false, false, false, false, false, false, false, false, false, false] (by kernel_rfl) rfl rfl ⟨((HB.out.cell (World.block_lt_of_cell? w _ hw415_0)).trans hw415_0), ((HB.out.cell (World.block_lt_of_cell? w _ hw416_0)).trans hw416_0), ((HB.out.cell (World.block_lt_of_cell? w _ hw417_0)).trans hw417_0), ((HB.out.cell (World.block_lt_of_cell? w _ hw417_1)).trans hw417_1), ((HB.out.cell (World.block_lt_of_cell? w _ hw417_2)).trans hw417_2), ((HB.out.cell (World.block_lt_of_cell? w _ hw418_0)).trans hw418_0), ((HB.out.cell (World.block_lt_of_cell? w _ hw418_1)).trans hw418_1), ((HB.out.cell (World.block_lt_of_cell? w _ hw418_2)).trans hw418_2)⟩ (fun hHeld => ?_); refine with_tabW turndownref08_Assigned.tab11 turndownref08_Assigned.bits11 (fun HT_ HW_ => ?_)
                                      generalize wr.drew = w18 at HB hx415_0 hx416_0 hx417_0 hx417_1 hx417_2 hx418_0 hx418_1 hx418_2 hHeld ⊢
                                      refine pure_ (i := 0) (N := some 28) (v := ?_) (a' := ?_) #[true, false, false, false, false, false, false, false, false, false, false, false, false, false, false, false, false, false, false, false] rfl rfl (any_of HT_.out (by kernel_rfl)) (fun _ _ _ h => h) (Or.inl ⟨by rfl, ?_⟩) ?_ ?_
                                      rotate_left
                                      · intro w'
                                        go_simp
                                        with_reducible rfl
                                      rotate_left
                                      · simp only [Act.put, List.setIfInBounds_toArray, List.set_cons_zero, List.set_cons_succ, i64_w, i32_w]
                                        rfl
                                      refine pure_ (i := 1) (N := some 29) (v := ?_) (a' := ?_) #[true, true, false, false, false, false, false, false, false, false, false, false, false, false, false, false, false, false, false, false] rfl rfl (any_of HT_.out (by kernel_rfl)) (fun _ _ _ h => h) (Or.inl ⟨by rfl, ?_⟩) ?_ ?_
                                      rotate_left
                                      · intro w'
                                        go_simp
                                        with_reducible rfl
                                      rotate_left
                                      · simp only [Act.put, List.setIfInBounds_toArray, List.set_cons_zero, List.set_cons_succ, i64_w, i32_w]
                                        rfl
                                      refine pure_ (i := 2) (N := some 30) (v := ?_) (a' := ?_) #[true, true, true, false, false, false, false, false, false, false, false, false, false, false, false, false, false, false, false, false] rfl rfl (any_of HT_.out (by kernel_rfl)) (fun _ _ _ h => h) (Or.inl ⟨by rfl, ?_⟩) ?_ ?_
                                      rotate_left
                                      · intro w'
                                        go_simp
                                        with_reducible rfl
                                      rotate_left
                                      · simp only [Act.put, List.setIfInBounds_toArray, List.set_cons_zero, List.set_cons_succ, i64_w, i32_w]
                                        rfl
                                      refine pure_ (i := 4) (N := some 32) (v := ?_) (a' := ?_) #[true, true, true, false, true, false, false, false, false, false, false, false, false, false, false, false, false, false, false, false] rfl rfl (any_of HT_.out (by kernel_rfl)) (fun _ _ _ h => h) (Or.inl ⟨by rfl, ?_⟩) ?_ ?_
                                      rotate_left
                                      · intro w'
                                        go_simp
                                        with_reducible rfl
                                      rotate_left
                                      · simp only [Act.put, List.setIfInBounds_toArray, List.set_cons_zero, List.set_cons_succ, i64_w, i32_w]
                                        rfl
                                      refine pure_ (i := 5) (N := some 33) (v := ?_) (a' := ?_) #[true, true, true, false, true, true, false, false, false, false, false, false, false, false, false, false, false, false, false, false] rfl rfl (any_of HT_.out (by kernel_rfl)) (fun _ _ _ h => h) (Or.inl ⟨by rfl, ?_⟩) ?_ ?_
                                      rotate_left
                                      · intro w'
                                        go_simp
                                        with_reducible rfl
                                      rotate_left
                                      · simp only [Act.put, List.setIfInBounds_toArray, List.set_cons_zero, List.set_cons_succ, i64_w, i32_w]
                                        rfl
                                      refine pure_ (i := 6) (N := some 34) (v := ?_) (a' := ?_) #[true, true, true, false, true, true, true, false, false, false, false, false, false, false, false, false, false, false, false, false] rfl rfl (any_of HT_.out (by kernel_rfl)) (fun _ _ _ h => h) (Or.inl ⟨by rfl, ?_⟩) ?_ ?_
                                      rotate_left
                                      · intro w'
                                        go_simp
                                        with_reducible rfl
                                      rotate_left
                                      · simp only [Act.put, List.setIfInBounds_toArray, List.set_cons_zero, List.set_cons_succ, i64_w, i32_w]
                                        rfl
                                      refine take_ (i := 3) (N := some 31) (v := ?_) (a' := ?_) #[true, true, true, true, true, true, true, false, false, false, false, false, false, false, false, false, false, false, false, false] rfl rfl (take_ofW HT_.out HW_.out (by kernel_rfl)) (fun _ _ _ h => h) (Or.inl ⟨by rfl, ?_⟩) hHeld ?_ ?_
                                      rotate_left
                                      · rintro w' ⟨s0, s1, s2, s3, s4, s5, s6, s7⟩
                                        go_simp
                                        with_reducible rfl
                                      rotate_left
                                      · simp only [Act.put, List.setIfInBounds_toArray, List.set_cons_zero, List.set_cons_succ, i64_w, i32_w]
                                        rfl
                                      refine take_ (i := 7) (N := some 35) (v := ?_) (a' := ?_) #[true, true, true, true, true, true, true, true, false, false, false, false, false, false, false, false, false, false, false, false] rfl rfl (take_ofW HT_.out HW_.out (by kernel_rfl)) (fun _ _ _ h => h) (Or.inl ⟨by rfl, ?_⟩) hHeld ?_ ?_
                                      rotate_left
                                      · rintro w' ⟨s0, s1, s2, s3, s4, s5, s6, s7⟩
                                        go_simp
                                        with_reducible rfl
                                      rotate_left
                                      · simp only [Act.put, List.setIfInBounds_toArray, List.set_cons_zero, List.set_cons_succ, i64_w, i32_w]
                                        rfl
                                      refine pure_ (i := 8) (N := some 36) (v := ?_) (a' := ?_) #[true, true, true, true, true, true, true, true, true, false, false, false, false, false, false, false, false, false, false, false] rfl rfl (any_of HT_.out (by kernel_rfl)) (fun _ _ _ h => h) (Or.inl ⟨by rfl, ?_⟩) ?_ ?_
                                      rotate_left
                                      · intro w'
                                        go_simp
                                        with_reducible rfl
                                      rotate_left
                                      · simp only [Act.put, List.setIfInBounds_toArray, List.set_cons_zero, List.set_cons_succ, i64_w, i32_w]
                                        rfl
                                      refine pure_ (i := 9) (N := some 37) (v := ?_) (a' := ?_) #[true, true, true, true, true, true, true, true, true, true, false, false, false, false, false, false, false, false, false, false] rfl rfl (any_of HT_.out (by kernel_rfl)) (fun _ _ _ h => h) (Or.inl ⟨by rfl, ?_⟩) ?_ ?_
                                      rotate_left
                                      · intro w'
                                        go_simp
                                        with_reducible rfl
                                      rotate_left
                                      · simp only [Act.put, List.setIfInBounds_toArray, List.set_cons_zero, List.set_cons_succ, i64_w, i32_w]
                                        rfl
                                      refine pure_ (i := 10) (N := some 38) (v := ?_) (a' := ?_) #[true, true, true, true, true, true, true, true, true, true, true, false, false, false, false, false, false, false, false, false] rfl rfl (any_of HT_.out (by kernel_rfl)) (fun _ _ _ h => h) (Or.inl ⟨by rfl, ?_⟩) ?_ ?_
                                      rotate_left
                                      · intro w'
                                        go_simp
                                        with_reducible rfl
                                      rotate_left
                                      · simp only [Act.put, List.setIfInBounds_toArray, List.set_cons_zero, List.set_cons_succ, i64_w, i32_w]
                                        rfl
                                      refine pure_ (i := 11) (N := some 39) (v := ?_) (a' := ?_) #[true, true, true, true, true, true, true, true, true, true, true, true, false, false, false, false, false, false, false, false] rfl rfl (any_of HT_.out (by kernel_rfl)) (fun _ _ _ h => h) (Or.inl ⟨by rfl, ?_⟩) ?_ ?_
                                      rotate_left
                                      · intro w'
                                        go_simp
                                        with_reducible rfl
                                      rotate_left
                                      · simp only [Act.put, List.setIfInBounds_toArray, List.set_cons_zero, List.set_cons_succ, i64_w, i32_w]
                                        rfl
                                      refine pure_ (i := 12) (N := some 40) (v := ?_) (a' := ?_) #[true, true, true, true, true, true, true, true, true, true, true, true, true, false, false, false, false, false, false, false] rfl rfl (any_of HT_.out (by kernel_rfl)) (fun _ _ _ h => h) (Or.inl ⟨by rfl, ?_⟩) ?_ ?_
                                      rotate_left
                                      · intro w'
                                        go_simp
                                        with_reducible rfl
                                      rotate_left
                                      · simp only [Act.put, List.setIfInBounds_toArray, List.set_cons_zero, List.set_cons_succ, i64_w, i32_w]
                                        rfl
                                      refine pure_ (i := 14) (N := some 42) (v := ?_) (a' := ?_) #[true, true, true, true, true, true, true, true, true, true, true, true, true, false, true, false, false, false, false, false] rfl rfl (any_of HT_.out (by kernel_rfl)) (fun _ _ _ h => h) (Or.inl ⟨by rfl, ?_⟩) ?_ ?_
                                      rotate_left
                                      · intro w'
                                        go_simp
                                        with_reducible rfl
                                      rotate_left
                                      · simp only [Act.put, List.setIfInBounds_toArray, List.set_cons_zero, List.set_cons_succ, i64_w, i32_w]
                                        rfl
                                      refine pure_ (i := 15) (N := some 43) (v := ?_) (a' := ?_) #[true, true, true, true, true, true, true, true, true, true, true, true, true, false, true, true, false, false, false, false] rfl rfl (any_of HT_.out (by kernel_rfl)) (fun _ _ _ h => h) (Or.inl ⟨by rfl, ?_⟩) ?_ ?_
                                      rotate_left
                                      · intro w'
                                        go_simp
                                        with_reducible rfl
                                      rotate_left
                                      · simp only [Act.put, List.setIfInBounds_toArray, List.set_cons_zero, List.set_cons_succ, i64_w, i32_w]
                                        rfl
                                      refine pure_ (i := 16) (N := some 44) (v := ?_) (a' := ?_) #[true, true, true, true, true, true, true, true, true, true, true, true, true, false, true, true, true, false, false, false] rfl rfl (any_of HT_.out (by kernel_rfl)) (fun _ _ _ h => h) (Or.inl ⟨by rfl, ?_⟩) ?_ ?_
                                      rotate_left
                                      · intro w'
                                        go_simp
                                        with_reducible rfl
                                      rotate_left
                                      · simp only [Act.put, List.setIfInBounds_toArray, List.set_cons_zero, List.set_cons_succ, i64_w, i32_w]
                                        rfl
                                      refine take_ (i := 13) (N := some 41) (v := ?_) (a' := ?_) #[true, true, true, true, true, true, true, true, true, true, true, true, true, true, true, true, true, false, false, false] rfl rfl (take_ofW HT_.out HW_.out (by kernel_rfl)) (fun _ _ _ h => h) (Or.inl ⟨by rfl, ?_⟩) hHeld ?_ ?_
                                      rotate_left
                                      · rintro w' ⟨s0, s1, s2, s3, s4, s5, s6, s7⟩
                                        go_simp
                                        with_reducible rfl
                                      rotate_left
                                      · simp only [Act.put, List.setIfInBounds_toArray, List.set_cons_zero, List.set_cons_succ, i64_w, i32_w]
                                        rfl
                                      refine take_ (i := 17) (N := some 45) (v := ?_) (a' := ?_) #[true, true, true, true, true, true, true, true, true, true, true, true, true, true, true, true, true, true, false, false] rfl rfl (take_ofW HT_.out HW_.out (by kernel_rfl)) (fun _ _ _ h => h) (Or.inl ⟨by rfl, ?_⟩) hHeld ?_ ?_
                                      rotate_left
                                      · rintro w' ⟨s0, s1, s2, s3, s4, s5, s6, s7⟩
                                        go_simp
                                        with_reducible rfl
                                      rotate_left
                                      · simp only [Act.put, List.setIfInBounds_toArray, List.set_cons_zero, List.set_cons_succ, i64_w, i32_w]
                                        rfl
                                      refine one_ (i := 18) (N := some 46) #[true, true, true, true, true, true, true, true, true, true, true, true, true, true, true, true, true, true, true, false] rfl rfl (one_of HT_.out (by kernel_rfl)) (by decide) (fun K hK => ?_)
                                      refine goes_ Try.func54 (by kernel_rfl) rfl #[.agg #[.int .i64 ((rd_T47 l0 x6_2).f0), .int .i64 ((rd_T47 l0 x6_2).f1), .int .i64 ((rd_T47 l0 x6_2).f2)], .agg #[.int .i64 ((rd_T47 l0 x5_1).f0), .int .i64 ((rd_T47 l0 x5_1).f1), .int .i64 ((rd_T47 l0 x5_1).f2)]] (by rfl) rfl rfl (by (try simp only [List.map_toArray, List.map_cons, List.map_nil]); first | done | rfl | (simp only [List.length_drop, List.length_take]; rfl)) ?_
                                      with_reducible refine (turndownref08_meets.calls ((rd_T47 l0 x6_2).f0) ((rd_T47 l0 x6_2).f1) ((rd_T47 l0 x6_2).f2) ((rd_T47 l0 x5_1).f0) ((rd_T47 l0 x5_1).f1) ((rd_T47 l0 x5_1).f2) true _ A16.out).mono ?_
                                      rintro e w19 ⟨rfl, hb⟩
                                      refine ⟨_, rfl, ?_⟩
                                      have n0_ := Aside0.mk (below_step (by repeat (first | (with_reducible first | exact HB.out | apply below_alloc | apply pw_below_drewN | apply below_drew1) | exact HB.out)) hb)
                                      clear HB
                                      have HB := n0_
                                      clear n0_
                                      (try clear hb)
                                      (try clear hb2)
                                      (try clear hk)
                                      (try clear hi)
                                      refine hK.out _ _ ⟨((HB.out.cell (World.block_lt_of_cell? w _ hw415_0)).trans hw415_0), ((HB.out.cell (World.block_lt_of_cell? w _ hw416_0)).trans hw416_0), ((HB.out.cell (World.block_lt_of_cell? w _ hw417_0)).trans hw417_0), ((HB.out.cell (World.block_lt_of_cell? w _ hw417_1)).trans hw417_1), ((HB.out.cell (World.block_lt_of_cell? w _ hw417_2)).trans hw417_2), ((HB.out.cell (World.block_lt_of_cell? w _ hw418_0)).trans hw418_0), ((HB.out.cell (World.block_lt_of_cell? w _ hw418_1)).trans hw418_1), ((HB.out.cell (World.block_lt_of_cell? w _ hw418_2)).trans hw418_2)⟩ (fun hHeld => ?_)
                                      clear hK K
                                      refine norm_ (a' := ?_) ?_ ?_
                                      rotate_left
                                      · show Act.put _ (some 46) _ = _
                                        simp only [Act.put, List.setIfInBounds_toArray, List.set_cons_zero, List.set_cons_succ, i64_w, i32_w]
                                        rfl
                                      refine pure_ (i := 19) (N := some 47) (v := ?_) (a' := ?_) #[true, true, true, true, true, true, true, true, true, true, true, true, true, true, true, true, true, true, true, true] rfl rfl (any_of HT_.out (by kernel_rfl)) (fun _ _ _ h => h) (Or.inl ⟨by rfl, ?_⟩) ?_ ?_
                                      rotate_left
                                      · intro w'
                                        go_simp
                                        with_reducible rfl
                                      rotate_left
                                      · simp only [Act.put, List.setIfInBounds_toArray, List.set_cons_zero, List.set_cons_succ, i64_w, i32_w]
                                        rfl
                                      refine done_ (done_of HT_.out (by kernel_rfl)) ?_
                                      try go_wp2
                                      go_ret
                                      exact ⟨by first | rfl | (simp [errW_none, errW_some] <;> rfl) | (simp [*, errW_none, errW_some] <;> rfl), by repeat (first | (with_reducible first | exact HB.out | apply below_alloc | apply pw_below_drewN | apply below_drew1) | exact HB.out)⟩
                                    · replace c17 := Bool.eq_false_iff.mpr c17
                                      subst c17
                                      have H1 : (turndownref08_Assigned.l1 k2 l0 l1 x5_1 (wrap64 (x6_2 + 1))) = some r := by rw [if_neg (show ¬ (false = true) by decide)] at H; exact H
                                      clear H
                                      have H := H1
                                      clear H1
                                      have H' := Aside0.mk H
                                      clear H
                                      try go_wp2
                                      have n0_ := Aside0.mk (below_drew1 HB.out)
                                      clear HB
                                      have HB := n0_
                                      clear n0_
                                      have p415 : 0 ≤ (x6_2 : Int) := of_decide_eq_true (by first | (with_reducible assumption) | assumption)
                                      have q415 : x6_2 < (l1.length : Int) := of_decide_eq_true (by first | (with_reducible assumption) | assumption)
                                      obtain ⟨ad415, e415, hx415_0⟩ := Kd.at_int HR1.out x6_2 p415 q415
                                      have hw415_0 := hx415_0
                                      obtain rfl : ad414 = ad415 := (by injection e415)
                                      replace hx415_0 := (HB.out.cell (World.block_lt_of_cell? w _ hx415_0)).trans hx415_0
                                      replace p415 := eq_true p415
                                      replace q415 := eq_true q415
                                      have p416 : 0 ≤ (x5_1 : Int) := of_decide_eq_true (by first | (with_reducible assumption) | assumption)
                                      have q416 : x5_1 < (l1.length : Int) := of_decide_eq_true (by first | (with_reducible assumption) | assumption)
                                      obtain ⟨ad416, e416, hx416_0⟩ := Kd.at_int HR1.out x5_1 p416 q416
                                      have hw416_0 := hx416_0
                                      obtain rfl : ad414 = ad416 := (by injection e416)
                                      replace hx416_0 := (HB.out.cell (World.block_lt_of_cell? w _ hx416_0)).trans hx416_0
                                      replace p416 := eq_true p416
                                      replace q416 := eq_true q416
                                      have p417 : 0 ≤ (x6_2 : Int) := of_decide_eq_true (by first | (with_reducible assumption) | assumption)
                                      have q417 : x6_2 < (l0.length : Int) := of_decide_eq_true (by first | (with_reducible assumption) | assumption)
                                      obtain ⟨ad417, e417, hx417_0, hx417_1, hx417_2⟩ := at_T47 HR0.out x6_2 p417 q417
                                      have hw417_2 := hx417_2
                                      have hw417_1 := hx417_1
                                      have hw417_0 := hx417_0
                                      cases e417
                                      replace hx417_0 := (HB.out.cell (World.block_lt_of_cell? w _ hx417_0)).trans hx417_0
                                      replace hx417_1 := (HB.out.cell (World.block_lt_of_cell? w _ hx417_1)).trans hx417_1
                                      replace hx417_2 := (HB.out.cell (World.block_lt_of_cell? w _ hx417_2)).trans hx417_2
                                      replace p417 := eq_true p417
                                      replace q417 := eq_true q417
                                      have p418 : 0 ≤ (x5_1 : Int) := of_decide_eq_true (by first | (with_reducible assumption) | assumption)
                                      have q418 : x5_1 < (l0.length : Int) := of_decide_eq_true (by first | (with_reducible assumption) | assumption)
                                      obtain ⟨ad418, e418, hx418_0, hx418_1, hx418_2⟩ := at_T47 HR0.out x5_1 p418 q418
                                      have hw418_2 := hx418_2
                                      have hw418_1 := hx418_1
                                      have hw418_0 := hx418_0
                                      obtain rfl : ad417 = ad418 := (by injection e418)
                                      replace hx418_0 := (HB.out.cell (World.block_lt_of_cell? w _ hx418_0)).trans hx418_0
                                      replace hx418_1 := (HB.out.cell (World.block_lt_of_cell? w _ hx418_1)).trans hx418_1
                                      replace hx418_2 := (HB.out.cell (World.block_lt_of_cell? w _ hx418_2)).trans hx418_2
                                      replace p418 := eq_true p418
                                      replace q418 := eq_true q418
                                      refine start_ (n := 20) (S := fun w' => w'.cell? (ad414.add (x6_2).toNat) = some (.int .i64 (rd l1 x6_2)) ∧ w'.cell? (ad414.add (x5_1).toNat) = some (.int .i64 (rd l1 x5_1)) ∧ w'.cell? (ad417.add ((x6_2).toNat * 3)) = some (.int .i64 ((rd_T47 l0 x6_2).f0)) ∧ w'.cell? ⟨(ad417.add ((x6_2).toNat * 3)).block, (ad417.add ((x6_2).toNat * 3)).off + 1, none⟩ = some (.int .i64 ((rd_T47 l0 x6_2).f1)) ∧ w'.cell? ⟨(ad417.add ((x6_2).toNat * 3)).block, (ad417.add ((x6_2).toNat * 3)).off + 2, none⟩ = some (.int .i64 ((rd_T47 l0 x6_2).f2)) ∧ w'.cell? (ad417.add ((x5_1).toNat * 3)) = some (.int .i64 ((rd_T47 l0 x5_1).f0)) ∧ w'.cell? ⟨(ad417.add ((x5_1).toNat * 3)).block, (ad417.add ((x5_1).toNat * 3)).off + 1, none⟩ = some (.int .i64 ((rd_T47 l0 x5_1).f1)) ∧ w'.cell? ⟨(ad417.add ((x5_1).toNat * 3)).block, (ad417.add ((x5_1).toNat * 3)).off + 2, none⟩ = some (.int .i64 ((rd_T47 l0 x5_1).f2))) (ds := []) #[false, false, false, false, false, false, false, false, false, false, false, false, false, false, false, false, false, false, false, false] (by kernel_rfl) rfl rfl ⟨((HB.out.cell (World.block_lt_of_cell? w _ hw415_0)).trans hw415_0), ((HB.out.cell (World.block_lt_of_cell? w _ hw416_0)).trans hw416_0), ((HB.out.cell (World.block_lt_of_cell? w _ hw417_0)).trans hw417_0), ((HB.out.cell (World.block_lt_of_cell? w _ hw417_1)).trans hw417_1), ((HB.out.cell (World.block_lt_of_cell? w _ hw417_2)).trans hw417_2), ((HB.out.cell (World.block_lt_of_cell? w _ hw418_0)).trans hw418_0), ((HB.out.cell (World.block_lt_of_cell? w _ hw418_1)).trans hw418_1), ((HB.out.cell (World.block_lt_of_cell? w _ hw418_2)).trans hw418_2)⟩ (fun hHeld => ?_); refine with_tabW turndownref08_Assigned.tab11 turndownref08_Assigned.bits11 (fun HT_ HW_ => ?_)
                                      generalize wr.drew = w20 at HB hx415_0 hx416_0 hx417_0 hx417_1 hx417_2 hx418_0 hx418_1 hx418_2 hHeld ⊢
                                      refine pure_ (i := 0) (N := some 28) (v := ?_) (a' := ?_) #[true, false, false, false, false, false, false, false, false, false, false, false, false, false, false, false, false, false, false, false] rfl rfl (any_of HT_.out (by kernel_rfl)) (fun _ _ _ h => h) (Or.inl ⟨by rfl, ?_⟩) ?_ ?_
                                      rotate_left
                                      · intro w'
                                        go_simp
                                        with_reducible rfl
                                      rotate_left
                                      · simp only [Act.put, List.setIfInBounds_toArray, List.set_cons_zero, List.set_cons_succ, i64_w, i32_w]
                                        rfl
                                      refine pure_ (i := 1) (N := some 29) (v := ?_) (a' := ?_) #[true, true, false, false, false, false, false, false, false, false, false, false, false, false, false, false, false, false, false, false] rfl rfl (any_of HT_.out (by kernel_rfl)) (fun _ _ _ h => h) (Or.inl ⟨by rfl, ?_⟩) ?_ ?_
                                      rotate_left
                                      · intro w'
                                        go_simp
                                        with_reducible rfl
                                      rotate_left
                                      · simp only [Act.put, List.setIfInBounds_toArray, List.set_cons_zero, List.set_cons_succ, i64_w, i32_w]
                                        rfl
                                      refine pure_ (i := 2) (N := some 30) (v := ?_) (a' := ?_) #[true, true, true, false, false, false, false, false, false, false, false, false, false, false, false, false, false, false, false, false] rfl rfl (any_of HT_.out (by kernel_rfl)) (fun _ _ _ h => h) (Or.inl ⟨by rfl, ?_⟩) ?_ ?_
                                      rotate_left
                                      · intro w'
                                        go_simp
                                        with_reducible rfl
                                      rotate_left
                                      · simp only [Act.put, List.setIfInBounds_toArray, List.set_cons_zero, List.set_cons_succ, i64_w, i32_w]
                                        rfl
                                      refine pure_ (i := 4) (N := some 32) (v := ?_) (a' := ?_) #[true, true, true, false, true, false, false, false, false, false, false, false, false, false, false, false, false, false, false, false] rfl rfl (any_of HT_.out (by kernel_rfl)) (fun _ _ _ h => h) (Or.inl ⟨by rfl, ?_⟩) ?_ ?_
                                      rotate_left
                                      · intro w'
                                        go_simp
                                        with_reducible rfl
                                      rotate_left
                                      · simp only [Act.put, List.setIfInBounds_toArray, List.set_cons_zero, List.set_cons_succ, i64_w, i32_w]
                                        rfl
                                      refine pure_ (i := 5) (N := some 33) (v := ?_) (a' := ?_) #[true, true, true, false, true, true, false, false, false, false, false, false, false, false, false, false, false, false, false, false] rfl rfl (any_of HT_.out (by kernel_rfl)) (fun _ _ _ h => h) (Or.inl ⟨by rfl, ?_⟩) ?_ ?_
                                      rotate_left
                                      · intro w'
                                        go_simp
                                        with_reducible rfl
                                      rotate_left
                                      · simp only [Act.put, List.setIfInBounds_toArray, List.set_cons_zero, List.set_cons_succ, i64_w, i32_w]
                                        rfl
                                      refine pure_ (i := 6) (N := some 34) (v := ?_) (a' := ?_) #[true, true, true, false, true, true, true, false, false, false, false, false, false, false, false, false, false, false, false, false] rfl rfl (any_of HT_.out (by kernel_rfl)) (fun _ _ _ h => h) (Or.inl ⟨by rfl, ?_⟩) ?_ ?_
                                      rotate_left
                                      · intro w'
                                        go_simp
                                        with_reducible rfl
                                      rotate_left
                                      · simp only [Act.put, List.setIfInBounds_toArray, List.set_cons_zero, List.set_cons_succ, i64_w, i32_w]
                                        rfl
                                      refine take_ (i := 3) (N := some 31) (v := ?_) (a' := ?_) #[true, true, true, true, true, true, true, false, false, false, false, false, false, false, false, false, false, false, false, false] rfl rfl (take_ofW HT_.out HW_.out (by kernel_rfl)) (fun _ _ _ h => h) (Or.inl ⟨by rfl, ?_⟩) hHeld ?_ ?_
                                      rotate_left
                                      · rintro w' ⟨s0, s1, s2, s3, s4, s5, s6, s7⟩
                                        go_simp
                                        with_reducible rfl
                                      rotate_left
                                      · simp only [Act.put, List.setIfInBounds_toArray, List.set_cons_zero, List.set_cons_succ, i64_w, i32_w]
                                        rfl
                                      refine take_ (i := 7) (N := some 35) (v := ?_) (a' := ?_) #[true, true, true, true, true, true, true, true, false, false, false, false, false, false, false, false, false, false, false, false] rfl rfl (take_ofW HT_.out HW_.out (by kernel_rfl)) (fun _ _ _ h => h) (Or.inl ⟨by rfl, ?_⟩) hHeld ?_ ?_
                                      rotate_left
                                      · rintro w' ⟨s0, s1, s2, s3, s4, s5, s6, s7⟩
                                        go_simp
                                        with_reducible rfl
                                      rotate_left
                                      · simp only [Act.put, List.setIfInBounds_toArray, List.set_cons_zero, List.set_cons_succ, i64_w, i32_w]
                                        rfl
                                      refine pure_ (i := 8) (N := some 36) (v := ?_) (a' := ?_) #[true, true, true, true, true, true, true, true, true, false, false, false, false, false, false, false, false, false, false, false] rfl rfl (any_of HT_.out (by kernel_rfl)) (fun _ _ _ h => h) (Or.inl ⟨by rfl, ?_⟩) ?_ ?_
                                      rotate_left
                                      · intro w'
                                        go_simp
                                        with_reducible rfl
                                      rotate_left
                                      · simp only [Act.put, List.setIfInBounds_toArray, List.set_cons_zero, List.set_cons_succ, i64_w, i32_w]
                                        rfl
                                      refine pure_ (i := 9) (N := some 37) (v := ?_) (a' := ?_) #[true, true, true, true, true, true, true, true, true, true, false, false, false, false, false, false, false, false, false, false] rfl rfl (any_of HT_.out (by kernel_rfl)) (fun _ _ _ h => h) (Or.inl ⟨by rfl, ?_⟩) ?_ ?_
                                      rotate_left
                                      · intro w'
                                        go_simp
                                        with_reducible rfl
                                      rotate_left
                                      · simp only [Act.put, List.setIfInBounds_toArray, List.set_cons_zero, List.set_cons_succ, i64_w, i32_w]
                                        rfl
                                      refine pure_ (i := 10) (N := some 38) (v := ?_) (a' := ?_) #[true, true, true, true, true, true, true, true, true, true, true, false, false, false, false, false, false, false, false, false] rfl rfl (any_of HT_.out (by kernel_rfl)) (fun _ _ _ h => h) (Or.inl ⟨by rfl, ?_⟩) ?_ ?_
                                      rotate_left
                                      · intro w'
                                        go_simp
                                        with_reducible rfl
                                      rotate_left
                                      · simp only [Act.put, List.setIfInBounds_toArray, List.set_cons_zero, List.set_cons_succ, i64_w, i32_w]
                                        rfl
                                      refine pure_ (i := 11) (N := some 39) (v := ?_) (a' := ?_) #[true, true, true, true, true, true, true, true, true, true, true, true, false, false, false, false, false, false, false, false] rfl rfl (any_of HT_.out (by kernel_rfl)) (fun _ _ _ h => h) (Or.inl ⟨by rfl, ?_⟩) ?_ ?_
                                      rotate_left
                                      · intro w'
                                        go_simp
                                        with_reducible rfl
                                      rotate_left
                                      · simp only [Act.put, List.setIfInBounds_toArray, List.set_cons_zero, List.set_cons_succ, i64_w, i32_w]
                                        rfl
                                      refine pure_ (i := 12) (N := some 40) (v := ?_) (a' := ?_) #[true, true, true, true, true, true, true, true, true, true, true, true, true, false, false, false, false, false, false, false] rfl rfl (any_of HT_.out (by kernel_rfl)) (fun _ _ _ h => h) (Or.inl ⟨by rfl, ?_⟩) ?_ ?_
                                      rotate_left
                                      · intro w'
                                        go_simp
                                        with_reducible rfl
                                      rotate_left
                                      · simp only [Act.put, List.setIfInBounds_toArray, List.set_cons_zero, List.set_cons_succ, i64_w, i32_w]
                                        rfl
                                      refine pure_ (i := 14) (N := some 42) (v := ?_) (a' := ?_) #[true, true, true, true, true, true, true, true, true, true, true, true, true, false, true, false, false, false, false, false] rfl rfl (any_of HT_.out (by kernel_rfl)) (fun _ _ _ h => h) (Or.inl ⟨by rfl, ?_⟩) ?_ ?_
                                      rotate_left
                                      · intro w'
                                        go_simp
                                        with_reducible rfl
                                      rotate_left
                                      · simp only [Act.put, List.setIfInBounds_toArray, List.set_cons_zero, List.set_cons_succ, i64_w, i32_w]
                                        rfl
                                      refine pure_ (i := 15) (N := some 43) (v := ?_) (a' := ?_) #[true, true, true, true, true, true, true, true, true, true, true, true, true, false, true, true, false, false, false, false] rfl rfl (any_of HT_.out (by kernel_rfl)) (fun _ _ _ h => h) (Or.inl ⟨by rfl, ?_⟩) ?_ ?_
                                      rotate_left
                                      · intro w'
                                        go_simp
                                        with_reducible rfl
                                      rotate_left
                                      · simp only [Act.put, List.setIfInBounds_toArray, List.set_cons_zero, List.set_cons_succ, i64_w, i32_w]
                                        rfl
                                      refine pure_ (i := 16) (N := some 44) (v := ?_) (a' := ?_) #[true, true, true, true, true, true, true, true, true, true, true, true, true, false, true, true, true, false, false, false] rfl rfl (any_of HT_.out (by kernel_rfl)) (fun _ _ _ h => h) (Or.inl ⟨by rfl, ?_⟩) ?_ ?_
                                      rotate_left
                                      · intro w'
                                        go_simp
                                        with_reducible rfl
                                      rotate_left
                                      · simp only [Act.put, List.setIfInBounds_toArray, List.set_cons_zero, List.set_cons_succ, i64_w, i32_w]
                                        rfl
                                      refine take_ (i := 13) (N := some 41) (v := ?_) (a' := ?_) #[true, true, true, true, true, true, true, true, true, true, true, true, true, true, true, true, true, false, false, false] rfl rfl (take_ofW HT_.out HW_.out (by kernel_rfl)) (fun _ _ _ h => h) (Or.inl ⟨by rfl, ?_⟩) hHeld ?_ ?_
                                      rotate_left
                                      · rintro w' ⟨s0, s1, s2, s3, s4, s5, s6, s7⟩
                                        go_simp
                                        with_reducible rfl
                                      rotate_left
                                      · simp only [Act.put, List.setIfInBounds_toArray, List.set_cons_zero, List.set_cons_succ, i64_w, i32_w]
                                        rfl
                                      refine take_ (i := 17) (N := some 45) (v := ?_) (a' := ?_) #[true, true, true, true, true, true, true, true, true, true, true, true, true, true, true, true, true, true, false, false] rfl rfl (take_ofW HT_.out HW_.out (by kernel_rfl)) (fun _ _ _ h => h) (Or.inl ⟨by rfl, ?_⟩) hHeld ?_ ?_
                                      rotate_left
                                      · rintro w' ⟨s0, s1, s2, s3, s4, s5, s6, s7⟩
                                        go_simp
                                        with_reducible rfl
                                      rotate_left
                                      · simp only [Act.put, List.setIfInBounds_toArray, List.set_cons_zero, List.set_cons_succ, i64_w, i32_w]
                                        rfl
                                      refine one_ (i := 18) (N := some 46) #[true, true, true, true, true, true, true, true, true, true, true, true, true, true, true, true, true, true, true, false] rfl rfl (one_of HT_.out (by kernel_rfl)) (by decide) (fun K hK => ?_)
                                      refine goes_ Try.func54 (by kernel_rfl) rfl #[.agg #[.int .i64 ((rd_T47 l0 x6_2).f0), .int .i64 ((rd_T47 l0 x6_2).f1), .int .i64 ((rd_T47 l0 x6_2).f2)], .agg #[.int .i64 ((rd_T47 l0 x5_1).f0), .int .i64 ((rd_T47 l0 x5_1).f1), .int .i64 ((rd_T47 l0 x5_1).f2)]] (by rfl) rfl rfl (by (try simp only [List.map_toArray, List.map_cons, List.map_nil]); first | done | rfl | (simp only [List.length_drop, List.length_take]; rfl)) ?_
                                      with_reducible refine (turndownref08_meets.calls ((rd_T47 l0 x6_2).f0) ((rd_T47 l0 x6_2).f1) ((rd_T47 l0 x6_2).f2) ((rd_T47 l0 x5_1).f0) ((rd_T47 l0 x5_1).f1) ((rd_T47 l0 x5_1).f2) false _ A16.out).mono ?_
                                      rintro e w21 ⟨rfl, hb⟩
                                      refine ⟨_, rfl, ?_⟩
                                      have n0_ := Aside0.mk (below_step (by repeat (first | (with_reducible first | exact HB.out | apply below_alloc | apply pw_below_drewN | apply below_drew1) | exact HB.out)) hb)
                                      clear HB
                                      have HB := n0_
                                      clear n0_
                                      (try clear hb)
                                      (try clear hb2)
                                      (try clear hk)
                                      (try clear hi)
                                      refine hK.out _ _ ⟨((HB.out.cell (World.block_lt_of_cell? w _ hw415_0)).trans hw415_0), ((HB.out.cell (World.block_lt_of_cell? w _ hw416_0)).trans hw416_0), ((HB.out.cell (World.block_lt_of_cell? w _ hw417_0)).trans hw417_0), ((HB.out.cell (World.block_lt_of_cell? w _ hw417_1)).trans hw417_1), ((HB.out.cell (World.block_lt_of_cell? w _ hw417_2)).trans hw417_2), ((HB.out.cell (World.block_lt_of_cell? w _ hw418_0)).trans hw418_0), ((HB.out.cell (World.block_lt_of_cell? w _ hw418_1)).trans hw418_1), ((HB.out.cell (World.block_lt_of_cell? w _ hw418_2)).trans hw418_2)⟩ (fun hHeld => ?_)
                                      clear hK K
                                      refine norm_ (a' := ?_) ?_ ?_
                                      rotate_left
                                      · show Act.put _ (some 46) _ = _
                                        simp only [Act.put, List.setIfInBounds_toArray, List.set_cons_zero, List.set_cons_succ, i64_w, i32_w]
                                        rfl
                                      refine pure_ (i := 19) (N := some 47) (v := ?_) (a' := ?_) #[true, true, true, true, true, true, true, true, true, true, true, true, true, true, true, true, true, true, true, true] rfl rfl (any_of HT_.out (by kernel_rfl)) (fun _ _ _ h => h) (Or.inl ⟨by rfl, ?_⟩) ?_ ?_
                                      rotate_left
                                      · intro w'
                                        go_simp
                                        with_reducible rfl
                                      rotate_left
                                      · simp only [Act.put, List.setIfInBounds_toArray, List.set_cons_zero, List.set_cons_succ, i64_w, i32_w]
                                        rfl
                                      refine done_ (done_of HT_.out (by kernel_rfl)) ?_
                                      try go_wp2
                                      go_roundg k2
                                      case measure => have := HK1.out; have := HK2.out; omega
                                      case rel => exact ⟨(wrap64 (x6_2 + 1)), (by first | rfl | (simp; done) | (simp [*]; done)), H', ⟨by have := HK1.out; have := HK2.out; omega⟩, ⟨by repeat (first | (with_reducible first | exact HB.out | apply below_alloc | apply pw_below_drewN | apply below_drew1) | exact HB.out)⟩⟩
                                  · rw [if_neg c15] at H
                                    exact absurd H (by simp)
                                · rw [if_neg c14] at H
                                  exact absurd H (by simp)
                              · rw [if_neg c13] at H
                                have c13b0 : ((rd l1 x6_2) == (rd l1 x5_1)) = false := beq_eq_false_iff_ne.mpr c13
                                have c13b1 : ((rd l1 x6_2) != (rd l1 x5_1)) = true := bne_iff_ne.mpr c13
                                have H' := Aside0.mk H
                                clear H
                                try go_wp2
                                have n0_ := Aside0.mk (below_drew1 HB.out)
                                clear HB
                                have HB := n0_
                                clear n0_
                                have p415 : 0 ≤ (x6_2 : Int) := of_decide_eq_true (by first | (with_reducible assumption) | assumption)
                                have q415 : x6_2 < (l1.length : Int) := of_decide_eq_true (by first | (with_reducible assumption) | assumption)
                                obtain ⟨ad415, e415, hx415_0⟩ := Kd.at_int HR1.out x6_2 p415 q415
                                have hw415_0 := hx415_0
                                obtain rfl : ad414 = ad415 := (by injection e415)
                                replace hx415_0 := (HB.out.cell (World.block_lt_of_cell? w _ hx415_0)).trans hx415_0
                                replace p415 := eq_true p415
                                replace q415 := eq_true q415
                                have p416 : 0 ≤ (x5_1 : Int) := of_decide_eq_true (by first | (with_reducible assumption) | assumption)
                                have q416 : x5_1 < (l1.length : Int) := of_decide_eq_true (by first | (with_reducible assumption) | assumption)
                                obtain ⟨ad416, e416, hx416_0⟩ := Kd.at_int HR1.out x5_1 p416 q416
                                have hw416_0 := hx416_0
                                obtain rfl : ad414 = ad416 := (by injection e416)
                                replace hx416_0 := (HB.out.cell (World.block_lt_of_cell? w _ hx416_0)).trans hx416_0
                                replace p416 := eq_true p416
                                replace q416 := eq_true q416
                                refine start_ (n := 20) (S := fun w' => w'.cell? (ad414.add (x6_2).toNat) = some (.int .i64 (rd l1 x6_2)) ∧ w'.cell? (ad414.add (x5_1).toNat) = some (.int .i64 (rd l1 x5_1))) (ds := []) #[false, false, false, false, false, false, false, false, false, false, false, false, false, false, false, false, false, false, false, false] (by kernel_rfl) rfl rfl ⟨((HB.out.cell (World.block_lt_of_cell? w _ hw415_0)).trans hw415_0), ((HB.out.cell (World.block_lt_of_cell? w _ hw416_0)).trans hw416_0)⟩ (fun hHeld => ?_); refine with_tabW turndownref08_Assigned.tab11 turndownref08_Assigned.bits11 (fun HT_ HW_ => ?_)
                                generalize wr.drew = w22 at HB hx415_0 hx416_0 hHeld ⊢
                                refine pure_ (i := 0) (N := some 28) (v := ?_) (a' := ?_) #[true, false, false, false, false, false, false, false, false, false, false, false, false, false, false, false, false, false, false, false] rfl rfl (any_of HT_.out (by kernel_rfl)) (fun _ _ _ h => h) (Or.inl ⟨by rfl, ?_⟩) ?_ ?_
                                rotate_left
                                · intro w'
                                  go_simp
                                  with_reducible rfl
                                rotate_left
                                · simp only [Act.put, List.setIfInBounds_toArray, List.set_cons_zero, List.set_cons_succ, i64_w, i32_w]
                                  rfl
                                refine pure_ (i := 1) (N := some 29) (v := ?_) (a' := ?_) #[true, true, false, false, false, false, false, false, false, false, false, false, false, false, false, false, false, false, false, false] rfl rfl (any_of HT_.out (by kernel_rfl)) (fun _ _ _ h => h) (Or.inl ⟨by rfl, ?_⟩) ?_ ?_
                                rotate_left
                                · intro w'
                                  go_simp
                                  with_reducible rfl
                                rotate_left
                                · simp only [Act.put, List.setIfInBounds_toArray, List.set_cons_zero, List.set_cons_succ, i64_w, i32_w]
                                  rfl
                                refine pure_ (i := 2) (N := some 30) (v := ?_) (a' := ?_) #[true, true, true, false, false, false, false, false, false, false, false, false, false, false, false, false, false, false, false, false] rfl rfl (any_of HT_.out (by kernel_rfl)) (fun _ _ _ h => h) (Or.inl ⟨by rfl, ?_⟩) ?_ ?_
                                rotate_left
                                · intro w'
                                  go_simp
                                  with_reducible rfl
                                rotate_left
                                · simp only [Act.put, List.setIfInBounds_toArray, List.set_cons_zero, List.set_cons_succ, i64_w, i32_w]
                                  rfl
                                refine pure_ (i := 4) (N := some 32) (v := ?_) (a' := ?_) #[true, true, true, false, true, false, false, false, false, false, false, false, false, false, false, false, false, false, false, false] rfl rfl (any_of HT_.out (by kernel_rfl)) (fun _ _ _ h => h) (Or.inl ⟨by rfl, ?_⟩) ?_ ?_
                                rotate_left
                                · intro w'
                                  go_simp
                                  with_reducible rfl
                                rotate_left
                                · simp only [Act.put, List.setIfInBounds_toArray, List.set_cons_zero, List.set_cons_succ, i64_w, i32_w]
                                  rfl
                                refine pure_ (i := 5) (N := some 33) (v := ?_) (a' := ?_) #[true, true, true, false, true, true, false, false, false, false, false, false, false, false, false, false, false, false, false, false] rfl rfl (any_of HT_.out (by kernel_rfl)) (fun _ _ _ h => h) (Or.inl ⟨by rfl, ?_⟩) ?_ ?_
                                rotate_left
                                · intro w'
                                  go_simp
                                  with_reducible rfl
                                rotate_left
                                · simp only [Act.put, List.setIfInBounds_toArray, List.set_cons_zero, List.set_cons_succ, i64_w, i32_w]
                                  rfl
                                refine pure_ (i := 6) (N := some 34) (v := ?_) (a' := ?_) #[true, true, true, false, true, true, true, false, false, false, false, false, false, false, false, false, false, false, false, false] rfl rfl (any_of HT_.out (by kernel_rfl)) (fun _ _ _ h => h) (Or.inl ⟨by rfl, ?_⟩) ?_ ?_
                                rotate_left
                                · intro w'
                                  go_simp
                                  with_reducible rfl
                                rotate_left
                                · simp only [Act.put, List.setIfInBounds_toArray, List.set_cons_zero, List.set_cons_succ, i64_w, i32_w]
                                  rfl
                                refine take_ (i := 3) (N := some 31) (v := ?_) (a' := ?_) #[true, true, true, true, true, true, true, false, false, false, false, false, false, false, false, false, false, false, false, false] rfl rfl (take_ofW HT_.out HW_.out (by kernel_rfl)) (fun _ _ _ h => h) (Or.inl ⟨by rfl, ?_⟩) hHeld ?_ ?_
                                rotate_left
                                · rintro w' ⟨s0, s1⟩
                                  go_simp
                                  with_reducible rfl
                                rotate_left
                                · simp only [Act.put, List.setIfInBounds_toArray, List.set_cons_zero, List.set_cons_succ, i64_w, i32_w]
                                  rfl
                                refine take_ (i := 7) (N := some 35) (v := ?_) (a' := ?_) #[true, true, true, true, true, true, true, true, false, false, false, false, false, false, false, false, false, false, false, false] rfl rfl (take_ofW HT_.out HW_.out (by kernel_rfl)) (fun _ _ _ h => h) (Or.inl ⟨by rfl, ?_⟩) hHeld ?_ ?_
                                rotate_left
                                · rintro w' ⟨s0, s1⟩
                                  go_simp
                                  with_reducible rfl
                                rotate_left
                                · simp only [Act.put, List.setIfInBounds_toArray, List.set_cons_zero, List.set_cons_succ, i64_w, i32_w]
                                  rfl
                                refine pure_ (i := 8) (N := some 36) (v := ?_) (a' := ?_) #[true, true, true, true, true, true, true, true, true, false, false, false, false, false, false, false, false, false, false, false] rfl rfl (any_of HT_.out (by kernel_rfl)) (fun _ _ _ h => h) (Or.inl ⟨by rfl, ?_⟩) ?_ ?_
                                rotate_left
                                · intro w'
                                  go_simp
                                  with_reducible rfl
                                rotate_left
                                · simp only [Act.put, List.setIfInBounds_toArray, List.set_cons_zero, List.set_cons_succ, i64_w, i32_w]
                                  rfl
                                refine pure_ (i := 9) (N := some 37) (v := ?_) (a' := ?_) #[true, true, true, true, true, true, true, true, true, true, false, false, false, false, false, false, false, false, false, false] rfl rfl (any_of HT_.out (by kernel_rfl)) (fun _ _ _ h => h) (Or.inl ⟨by rfl, ?_⟩) ?_ ?_
                                rotate_left
                                · intro w'
                                  go_simp
                                  with_reducible rfl
                                rotate_left
                                · simp only [Act.put, List.setIfInBounds_toArray, List.set_cons_zero, List.set_cons_succ, i64_w, i32_w]
                                  rfl
                                refine pure_ (i := 10) (N := some 38) (v := undef) (a' := ?_) #[true, true, true, true, true, true, true, true, true, true, true, false, false, false, false, false, false, false, false, false] rfl rfl (any_of HT_.out (by kernel_rfl)) (fun _ _ _ h => h) (Or.inr ⟨by rfl, rfl⟩) ?_ ?_
                                rotate_left
                                · simp only [Act.put, List.setIfInBounds_toArray, List.set_cons_zero, List.set_cons_succ, i64_w, i32_w]
                                  rfl
                                refine pure_ (i := 11) (N := some 39) (v := undef) (a' := ?_) #[true, true, true, true, true, true, true, true, true, true, true, true, false, false, false, false, false, false, false, false] rfl rfl (any_of HT_.out (by kernel_rfl)) (fun _ _ _ h => h) (Or.inr ⟨by rfl, rfl⟩) ?_ ?_
                                rotate_left
                                · simp only [Act.put, List.setIfInBounds_toArray, List.set_cons_zero, List.set_cons_succ, i64_w, i32_w]
                                  rfl
                                refine pure_ (i := 12) (N := some 40) (v := undef) (a' := ?_) #[true, true, true, true, true, true, true, true, true, true, true, true, true, false, false, false, false, false, false, false] rfl rfl (any_of HT_.out (by kernel_rfl)) (fun _ _ _ h => h) (Or.inr ⟨by rfl, rfl⟩) ?_ ?_
                                rotate_left
                                · simp only [Act.put, List.setIfInBounds_toArray, List.set_cons_zero, List.set_cons_succ, i64_w, i32_w]
                                  rfl
                                refine pure_ (i := 13) (N := some 41) (v := undef) (a' := ?_) #[true, true, true, true, true, true, true, true, true, true, true, true, true, true, false, false, false, false, false, false] rfl rfl (any_of HT_.out (by kernel_rfl)) (fun _ _ _ h => h) (Or.inr ⟨by rfl, rfl⟩) ?_ ?_
                                rotate_left
                                · simp only [Act.put, List.setIfInBounds_toArray, List.set_cons_zero, List.set_cons_succ, i64_w, i32_w]
                                  rfl
                                refine pure_ (i := 14) (N := some 42) (v := undef) (a' := ?_) #[true, true, true, true, true, true, true, true, true, true, true, true, true, true, true, false, false, false, false, false] rfl rfl (any_of HT_.out (by kernel_rfl)) (fun _ _ _ h => h) (Or.inr ⟨by rfl, rfl⟩) ?_ ?_
                                rotate_left
                                · simp only [Act.put, List.setIfInBounds_toArray, List.set_cons_zero, List.set_cons_succ, i64_w, i32_w]
                                  rfl
                                refine pure_ (i := 15) (N := some 43) (v := undef) (a' := ?_) #[true, true, true, true, true, true, true, true, true, true, true, true, true, true, true, true, false, false, false, false] rfl rfl (any_of HT_.out (by kernel_rfl)) (fun _ _ _ h => h) (Or.inr ⟨by rfl, rfl⟩) ?_ ?_
                                rotate_left
                                · simp only [Act.put, List.setIfInBounds_toArray, List.set_cons_zero, List.set_cons_succ, i64_w, i32_w]
                                  rfl
                                refine pure_ (i := 16) (N := some 44) (v := undef) (a' := ?_) #[true, true, true, true, true, true, true, true, true, true, true, true, true, true, true, true, true, false, false, false] rfl rfl (any_of HT_.out (by kernel_rfl)) (fun _ _ _ h => h) (Or.inr ⟨by rfl, rfl⟩) ?_ ?_
                                rotate_left
                                · simp only [Act.put, List.setIfInBounds_toArray, List.set_cons_zero, List.set_cons_succ, i64_w, i32_w]
                                  rfl
                                refine pure_ (i := 17) (N := some 45) (v := undef) (a' := ?_) #[true, true, true, true, true, true, true, true, true, true, true, true, true, true, true, true, true, true, false, false] rfl rfl (any_of HT_.out (by kernel_rfl)) (fun _ _ _ h => h) (Or.inr ⟨by rfl, rfl⟩) ?_ ?_
                                rotate_left
                                · simp only [Act.put, List.setIfInBounds_toArray, List.set_cons_zero, List.set_cons_succ, i64_w, i32_w]
                                  rfl
                                refine pure_ (i := 18) (N := some 46) (v := undef) (a' := ?_) #[true, true, true, true, true, true, true, true, true, true, true, true, true, true, true, true, true, true, true, false] rfl rfl (any_of HT_.out (by kernel_rfl)) (fun _ _ _ h => h) (Or.inr ⟨by rfl, rfl⟩) ?_ ?_
                                rotate_left
                                · simp only [Act.put, List.setIfInBounds_toArray, List.set_cons_zero, List.set_cons_succ, i64_w, i32_w]
                                  rfl
                                refine pure_ (i := 19) (N := some 47) (v := ?_) (a' := ?_) #[true, true, true, true, true, true, true, true, true, true, true, true, true, true, true, true, true, true, true, true] rfl rfl (any_of HT_.out (by kernel_rfl)) (fun _ _ _ h => h) (Or.inl ⟨by rfl, ?_⟩) ?_ ?_
                                rotate_left
                                · intro w'
                                  go_simp
                                  with_reducible rfl
                                rotate_left
                                · simp only [Act.put, List.setIfInBounds_toArray, List.set_cons_zero, List.set_cons_succ, i64_w, i32_w]
                                  rfl
                                refine done_ (done_of HT_.out (by kernel_rfl)) ?_
                                try go_wp2
                                go_roundg k2
                                case measure => have := HK1.out; have := HK2.out; omega
                                case rel => exact ⟨(wrap64 (x6_2 + 1)), (by first | rfl | (simp; done) | (simp [*]; done)), H', ⟨by have := HK1.out; have := HK2.out; omega⟩, ⟨by repeat (first | (with_reducible first | exact HB.out | apply below_alloc | apply pw_below_drewN | apply below_drew1) | exact HB.out)⟩⟩
                            · rw [if_neg c12] at H
                              exact absurd H (by simp)
                          · rw [if_neg c11] at H
                            exact absurd H (by simp)
                        · rw [if_neg c10] at H
                          exact absurd H (by simp)
                      · rw [if_neg c9] at H
                        exact absurd H (by simp)
                    · rw [if_neg c8] at H
                      have c8b0 : decide (x6_2 < x5_1) = false := decide_eq_false c8
                      clear c8
                      have H' := Aside0.mk H
                      clear H
                      go_wp2
                      go_roundg k2
                      case measure => have := HK1.out; have := HK2.out; omega
                      case rel => exact ⟨(wrap64 (x5_1 + 1)), (by first | rfl | (simp; done) | (simp [*]; done)), H', ⟨by have := HK1.out; have := HK2.out; omega⟩, ⟨by repeat (first | (with_reducible first | exact HB.out | apply below_alloc | apply pw_below_drewN | apply below_drew1) | exact HB.out)⟩⟩
            · rw [if_neg c6] at H
              exact absurd H (by simp)
          · rw [if_neg c5] at H
            exact absurd H (by simp)
        · rw [if_neg c4] at H
          have c4b0 : decide (x5_1 < (l0.length : Int)) = false := decide_eq_false c4
          clear c4
          obtain rfl := Option.some.inj H
          go_wp2
          go_ret
          exact ⟨by first | rfl | (simp [errW_none, errW_some] <;> rfl) | (simp [*, errW_none, errW_some] <;> rfl), by repeat (first | (with_reducible first | exact HB.out | apply below_alloc | apply pw_below_drewN | apply below_drew1) | exact HB.out)⟩
  · rw [if_neg c3] at H
    have c3b0 : ((l1.length : Int) == (l0.length : Int)) = false := beq_eq_false_iff_ne.mpr c3
    have c3b1 : ((l1.length : Int) != (l0.length : Int)) = true := bne_iff_ne.mpr c3
    have c3b2 : (l1.length == l0.length) = false := by first | simpa using c3 | (simp at c3 ⊢; omega)
    obtain rfl := Option.some.inj H
    go_enter Try.func37, Try.ntmps37
    go_wp2
    go_ret
    exact ⟨by first | rfl | (simp [errW_none, errW_some] <;> rfl) | (simp [*, errW_none, errW_some] <;> rfl), by repeat (first | (with_reducible first | exact HB.out | apply below_alloc | apply pw_below_drewN | apply below_drew1) | exact HB.out)⟩
end Go.Proofs.Ytpjobcnfjpbaeaa.PA

namespace Go.Proofs.Ytpjobcnfjpbaeaa.PA
open Go.RowKit Go.Proofs.YtpjobcnfjpbaeaaW.PrintWords Go.Proofs.YtpjobcnfjpbaeaaW.PrintLast Go.Proofs.YtpjobcnfjpbaeaaW.PrintMore
attribute [local go_sem] max2_int min2_int max_two min_two max_three min_three max_four min_four
set_option linter.unusedVariables false
set_option linter.unusedSimpArgs false
mutual
def turndownlaw08_RoomsEnough.j0 : Nat → List (S47) → List Int → Int → Bool → Option (Bool)
  | 0, _, _, _, _ => none
  | k + 1, x3, x4, x5, x45 => if x45 = true then (some false) else (turndownlaw08_RoomsEnough.l0 k x3 x4 x5 0)
def turndownlaw08_RoomsEnough.l0 : Nat → List (S47) → List Int → Int → Int → Option (Bool)
  | 0, _, _, _, _ => none
  | k + 1, x3, x4, x5, x10 => if x10 < (x4.length : Int) then (if 0 ≤ x10 then (if (rd x4 x10) ≥ x5 then (some false) else (turndownlaw08_RoomsEnough.l0 k x3 x4 x5 (wrap64 (x10 + 1)))) else (none)) else (if x5 > 8 then ((turndownlaw08_awake.f).bind fun t433 => (some t433)) else (turndownlaw08_RoomsEnough.l1 k x3 x5 0 0))
def turndownlaw08_RoomsEnough.l1 : Nat → List (S47) → Int → Int → Int → Option (Bool)
  | 0, _, _, _, _ => none
  | k + 1, x3, x5, x11, x12 => if x12 < (x3.length : Int) then (if 0 ≤ x12 then (turndownlaw08_RoomsEnough.l1 k x3 x5 (wrap64 (x11 + ((rd_T47 x3 x12).f2))) (wrap64 (x12 + 1))) else (none)) else (turndownlaw08_RoomsEnough.l2 k x3 x5 x11 ([] : List Int) 0)
def turndownlaw08_RoomsEnough.l2 : Nat → List (S47) → Int → Int → List Int → Int → Option (Bool)
  | 0, _, _, _, _, _ => none
  | k + 1, x3, x5, x11, x13, x14 => if x14 < 60 then (if x13.length < 17592186044416 then (turndownlaw08_RoomsEnough.l2 k x3 x5 x11 (x13 ++ [x5]) (wrap64 (x14 + 1))) else (none)) else ((turndownlaw08_revenue.f k x3 x13).bind fun t438 => (if t438 = x11 then ((turndownlaw08_awake.f).bind fun t439 => (some t439)) else (some false)))
end
def turndownlaw08_RoomsEnough.f (k : Nat) (l0 : List (S47)) : Option (Bool) := (turndownlaw08_tame.f l0 60 20).bind fun t420 => ((rooms_Assign.f t420).bind fun bt423 => ((rooms_Busiest.f k t420).bind fun bt428 => (if bt423.2.2 = 0 then (if bt428.2.2 = 0 then (if bt423.2.1 = bt428.1 then ((turndownref08_Assigned.f k t420 bt423.1).bind fun t431 => (turndownlaw08_RoomsEnough.j0 k t420 bt423.1 bt423.2.1 (!t431))) else (turndownlaw08_RoomsEnough.j0 k t420 bt423.1 bt423.2.1 true)) else (turndownlaw08_RoomsEnough.j0 k t420 bt423.1 bt423.2.1 true)) else (turndownlaw08_RoomsEnough.j0 k t420 bt423.1 bt423.2.1 true))))
set_option maxHeartbeats 8000000 in
set_option maxRecDepth 100000 in
theorem turndownlaw08_RoomsEnough.calls (k : Nat) (A0 : Option Addr) (c0 : Nat) (l0 : List (S47)) (r : Bool) (w : World) (hr0 : Kd.C k47 w A0 l0.length l0) (hc0 : l0.length ≤ c0) (h : turndownlaw08_RoomsEnough.f k l0 = some r) :
    Calls Try.prog 10 #[.slice A0 l0.length c0] w fun e w' => e = .returned (.bool r) ∧ Below w.heap.size w w' := by
  have HR0 := Aside0.mk hr0
  have HC0 := Aside0.mk hc0
  clear hr0 hc0
  have HB := Aside0.mk (Below.refl w.heap.size w)
  have H : ((turndownlaw08_tame.f l0 60 20).bind fun t420 => ((rooms_Assign.f t420).bind fun bt423 => ((rooms_Busiest.f k t420).bind fun bt428 => (if bt423.2.2 = 0 then (if bt428.2.2 = 0 then (if bt423.2.1 = bt428.1 then ((turndownref08_Assigned.f k t420 bt423.1).bind fun t431 => (turndownlaw08_RoomsEnough.j0 k t420 bt423.1 bt423.2.1 (!t431))) else (turndownlaw08_RoomsEnough.j0 k t420 bt423.1 bt423.2.1 true)) else (turndownlaw08_RoomsEnough.j0 k t420 bt423.1 bt423.2.1 true)) else (turndownlaw08_RoomsEnough.j0 k t420 bt423.1 bt423.2.1 true))))) = some r := h
  clear h
  replace H := Option.bind_eq_some_iff.mp H
  obtain ⟨t420, A20, H⟩ := H
  replace H : ((rooms_Assign.f t420).bind fun bt423 => ((rooms_Busiest.f k t420).bind fun bt428 => (if bt423.2.2 = 0 then (if bt428.2.2 = 0 then (if bt423.2.1 = bt428.1 then ((turndownref08_Assigned.f k t420 bt423.1).bind fun t431 => (turndownlaw08_RoomsEnough.j0 k t420 bt423.1 bt423.2.1 (!t431))) else (turndownlaw08_RoomsEnough.j0 k t420 bt423.1 bt423.2.1 true)) else (turndownlaw08_RoomsEnough.j0 k t420 bt423.1 bt423.2.1 true)) else (turndownlaw08_RoomsEnough.j0 k t420 bt423.1 bt423.2.1 true)))) = some r := H
  have A2 := Aside0.mk A20
  clear A20
  replace H := Option.bind_eq_some_iff.mp H
  obtain ⟨⟨t423, t424, t425⟩, A30, H⟩ := H
  replace H : ((rooms_Busiest.f k t420).bind fun bt428 => (if t425 = 0 then (if bt428.2.2 = 0 then (if t424 = bt428.1 then ((turndownref08_Assigned.f k t420 t423).bind fun t431 => (turndownlaw08_RoomsEnough.j0 k t420 t423 t424 (!t431))) else (turndownlaw08_RoomsEnough.j0 k t420 t423 t424 true)) else (turndownlaw08_RoomsEnough.j0 k t420 t423 t424 true)) else (turndownlaw08_RoomsEnough.j0 k t420 t423 t424 true))) = some r := H
  have A3 := Aside0.mk A30
  clear A30
  replace H := Option.bind_eq_some_iff.mp H
  obtain ⟨⟨t428, t429, t430⟩, A40, H⟩ := H
  replace H : (if t425 = 0 then (if t430 = 0 then (if t424 = t428 then ((turndownref08_Assigned.f k t420 t423).bind fun t431 => (turndownlaw08_RoomsEnough.j0 k t420 t423 t424 (!t431))) else (turndownlaw08_RoomsEnough.j0 k t420 t423 t424 true)) else (turndownlaw08_RoomsEnough.j0 k t420 t423 t424 true)) else (turndownlaw08_RoomsEnough.j0 k t420 t423 t424 true)) = some r := H
  have A4 := Aside0.mk A40
  clear A40
  have HC5 := Aside0.mk H
  clear H
  go_enter Try.func10, Try.ntmps10
  go_upto_region 4 with (first | ((with_reducible refine gate_callee (f := 24) rfl ?_); refine goesL_ (some 16) rfl rfl Try.func24 (by kernel_rfl) rfl #[.slice A0 l0.length c0, .int .i64 60, .int .i64 20] rfl (by (try simp only [List.map_toArray, List.map_cons, List.map_nil]); first | done | rfl | (simp only [List.length_drop, List.length_take]; rfl)) ?_; (with_reducible refine (turndownlaw08_tame.calls _ _ l0 60 20 t420 _ ?side1 ?side2 A2.out).mono ?_); (case side1 => repeat (first | exact HR0.out | (with_reducible refine Kd.C_alloc ?_ _) | (with_reducible refine Kd.C_drewN ?_ _) | (with_reducible refine Kd.C_drew ?_))); (case side2 => exact HC0.out); rintro e w6 ⟨v421, rfl, ho0, hb⟩; refine ⟨_, rfl, ?_⟩; have n0_ := Aside0.mk (Kd.R_lower ho0 (below_size (by repeat (first | (with_reducible first | exact HB.out | apply below_alloc | apply pw_below_drewN | apply below_drew1) | exact HB.out)))); have n1_ := Aside0.mk (below_step (by repeat (first | (with_reducible first | exact HB.out | apply below_alloc | apply pw_below_drewN | apply below_drew1) | exact HB.out)) hb); clear HB; have HO422 := n0_; have HB := n1_; clear n0_ n1_; (try clear hb); (try clear hb2); (try clear hk); (try clear hi); (try clear ho0); obtain ⟨Ao7, co7, eo7⟩ := Kd.R_slice HO422.out; subst eo7) | ((with_reducible refine gate_callee (f := 31) rfl ?_); refine goesL_ (some 19) rfl rfl Try.func31 (by kernel_rfl) rfl #[.slice Ao7 t420.length co7] rfl (by (try simp only [List.map_toArray, List.map_cons, List.map_nil]); first | done | rfl | (simp only [List.length_drop, List.length_take]; rfl)) ?_; (with_reducible refine (rooms_Assign.calls _ _ t420 t423 t424 t425 _ ?side1 ?side2 A3.out).mono ?_); (case side1 => repeat (first | exact (Kd.R_reads' HO422.out).2.2 | (with_reducible refine Kd.C_alloc ?_ _) | (with_reducible refine Kd.C_drewN ?_ _) | (with_reducible refine Kd.C_drew ?_))); (case side2 => exact (Kd.R_reads' HO422.out).2.1); rintro e w8 ⟨v426, rfl, ho0, hb⟩; refine ⟨_, rfl, ?_⟩; have n0_ := Aside0.mk (Kd.R_below (by (with_reducible repeat (first | apply Kd.R_alloc | apply Kd.R_drewN | apply Kd.R_drew)); exact HO422.out) hb); have n1_ := Aside0.mk (Kd.R_lower ho0 (below_size (by repeat (first | (with_reducible first | exact HB.out | apply below_alloc | apply pw_below_drewN | apply below_drew1) | exact HB.out)))); have n2_ := Aside0.mk (below_step (by repeat (first | (with_reducible first | exact HB.out | apply below_alloc | apply pw_below_drewN | apply below_drew1) | exact HB.out)) hb); clear HO422; clear HB; have HO422 := n0_; have HO427 := n1_; have HB := n2_; clear n0_ n1_ n2_; (try clear hb); (try clear hb2); (try clear hk); (try clear hi); (try clear ho0)) | ((with_reducible refine gate_callee (f := 34) rfl ?_); refine goesL_ (some 25) rfl rfl Try.func34 (by kernel_rfl) rfl #[.slice Ao7 t420.length co7] rfl (by (try simp only [List.map_toArray, List.map_cons, List.map_nil]); first | done | rfl | (simp only [List.length_drop, List.length_take]; rfl)) ?_; (with_reducible refine (rooms_Busiest.calls k _ _ t420 t428 t429 t430 _ ?side1 ?side2 A4.out).mono ?_); (case side1 => repeat (first | exact (Kd.R_reads' HO422.out).2.2 | (with_reducible refine Kd.C_alloc ?_ _) | (with_reducible refine Kd.C_drewN ?_ _) | (with_reducible refine Kd.C_drew ?_))); (case side2 => exact (Kd.R_reads' HO422.out).2.1); rintro e w9 ⟨rfl, hb⟩; refine ⟨_, rfl, ?_⟩; have n0_ := Aside0.mk (Kd.R_below (by (with_reducible repeat (first | apply Kd.R_alloc | apply Kd.R_drewN | apply Kd.R_drew)); exact HO422.out) hb); have n1_ := Aside0.mk (Kd.R_below (by (with_reducible repeat (first | apply Kd.R_alloc | apply Kd.R_drewN | apply Kd.R_drew)); exact HO427.out) hb); have n2_ := Aside0.mk (below_step (by repeat (first | (with_reducible first | exact HB.out | apply below_alloc | apply pw_below_drewN | apply below_drew1) | exact HB.out)) hb); clear HO422; clear HO427; clear HB; have HO422 := n0_; have HO427 := n1_; have HB := n2_; clear n0_ n1_ n2_; (try clear hb); (try clear hb2); (try clear hk); (try clear hi)))
  (try simp only [Act.put, List.setIfInBounds_toArray, List.set_cons_zero, List.set_cons_succ])
  go_cut [45] (fun v45 wc => ∃ (kq : Nat) (x45_4 : Bool), v45 = .bool x45_4 ∧ Aside0 (turndownlaw08_RoomsEnough.j0 kq t420 t423 t424 x45_4 = some r) ∧ Aside0 (kq ≤ k) ∧ Aside0 (Kd.R k47 47 wc w.heap.size (fun _ => True) (.slice Ao7 t420.length co7) t420) ∧ Aside0 (Kd.R (Kd.int .i64) 3 wc w.heap.size (fun _ => True) v426 t423) ∧ Aside0 (Below w.heap.size w wc))
  case first =>
    have H := HC5.out
    clear HC5
    by_cases c10 : t425 = 0
    · rw [if_pos c10] at H
      have c10b0 : (t425 == 0) = true := beq_iff_eq.mpr c10
      have c10b1 : (t425 != 0) = false := bne_eq_false_iff_eq.mpr c10
      clear c10
      (first | rw [c10b0] | (simp only [i64_w, i32_w]; rw [c10b0]) | skip)
      by_cases c11 : t430 = 0
      · rw [if_pos c11] at H
        have c11b0 : (t430 == 0) = true := beq_iff_eq.mpr c11
        have c11b1 : (t430 != 0) = false := bne_eq_false_iff_eq.mpr c11
        clear c11
        by_cases c12 : t424 = t428
        · rw [if_pos c12] at H
          have c12b0 : (t424 == t428) = true := beq_iff_eq.mpr c12
          have c12b1 : (t424 != t428) = false := bne_eq_false_iff_eq.mpr c12
          clear c12
          replace H := Option.bind_eq_some_iff.mp H
          obtain ⟨t431, A130, H⟩ := H
          replace H : (turndownlaw08_RoomsEnough.j0 k t420 t423 t424 (!t431)) = some r := H
          have A13 := Aside0.mk A130
          clear A130
          have H' := Aside0.mk H
          clear H
          obtain ⟨Ao14, co14, eo14⟩ := Kd.R_slice HO427.out
          subst eo14
          go_wp2_with (first | (go_at_call 37; (with_reducible refine (turndownref08_Assigned.calls k _ _ t420 _ _ t423 t431 _ ?side1 ?side2 ?side3 ?side4 A13.out).mono ?_); (case side1 => repeat (first | exact (Kd.R_reads' HO422.out).2.2 | (with_reducible refine Kd.C_alloc ?_ _) | (with_reducible refine Kd.C_drewN ?_ _) | (with_reducible refine Kd.C_drew ?_))); (case side2 => exact (Kd.R_reads' HO422.out).2.1); (case side3 => repeat (first | exact (Kd.R_reads' HO427.out).2.2 | (with_reducible refine Kd.C_alloc ?_ _) | (with_reducible refine Kd.C_drewN ?_ _) | (with_reducible refine Kd.C_drew ?_))); (case side4 => exact (Kd.R_reads' HO427.out).2.1); rintro e w15 ⟨rfl, hb⟩; have n0_ := Aside0.mk (Kd.R_below (by (with_reducible repeat (first | apply Kd.R_alloc | apply Kd.R_drewN | apply Kd.R_drew)); exact HO422.out) hb); have n1_ := Aside0.mk (Kd.R_below (by (with_reducible repeat (first | apply Kd.R_alloc | apply Kd.R_drewN | apply Kd.R_drew)); exact HO427.out) hb); have n2_ := Aside0.mk (below_step (by repeat (first | (with_reducible first | exact HB.out | apply below_alloc | apply pw_below_drewN | apply below_drew1) | exact HB.out)) hb); clear HO422; clear HO427; clear HB; have HO422 := n0_; have HO427 := n1_; have HB := n2_; clear n0_ n1_ n2_; (try clear hb); (try clear hb2); (try clear hk); (try clear hi)))
          go_meet
          case rel => exact ⟨_, (!t431), (by first | rfl | (simp; done) | (simp [*]; done)), H', ⟨by first | omega | exact Nat.le_refl _⟩, ⟨by (with_reducible repeat (first | apply Kd.R_alloc | apply Kd.R_drewN | apply Kd.R_drew)); exact HO422.out⟩, ⟨by (with_reducible repeat (first | apply Kd.R_alloc | apply Kd.R_drewN | apply Kd.R_drew)); exact HO427.out⟩, ⟨by repeat (first | (with_reducible first | exact HB.out | apply below_alloc | apply pw_below_drewN | apply below_drew1) | exact HB.out)⟩⟩
        · rw [if_neg c12] at H
          have c12b0 : (t424 == t428) = false := beq_eq_false_iff_ne.mpr c12
          have c12b1 : (t424 != t428) = true := bne_iff_ne.mpr c12
          have H' := Aside0.mk H
          clear H
          go_wp2
          go_meet
          case rel => exact ⟨_, (true), (by first | rfl | (simp; done) | (simp [*]; done)), H', ⟨by first | omega | exact Nat.le_refl _⟩, ⟨by (with_reducible repeat (first | apply Kd.R_alloc | apply Kd.R_drewN | apply Kd.R_drew)); exact HO422.out⟩, ⟨by (with_reducible repeat (first | apply Kd.R_alloc | apply Kd.R_drewN | apply Kd.R_drew)); exact HO427.out⟩, ⟨by repeat (first | (with_reducible first | exact HB.out | apply below_alloc | apply pw_below_drewN | apply below_drew1) | exact HB.out)⟩⟩
      · rw [if_neg c11] at H
        have c11b0 : (t430 == 0) = false := beq_eq_false_iff_ne.mpr c11
        have c11b1 : (t430 != 0) = true := bne_iff_ne.mpr c11
        have H' := Aside0.mk H
        clear H
        go_wp2
        go_meet
        case rel => exact ⟨_, (true), (by first | rfl | (simp; done) | (simp [*]; done)), H', ⟨by first | omega | exact Nat.le_refl _⟩, ⟨by (with_reducible repeat (first | apply Kd.R_alloc | apply Kd.R_drewN | apply Kd.R_drew)); exact HO422.out⟩, ⟨by (with_reducible repeat (first | apply Kd.R_alloc | apply Kd.R_drewN | apply Kd.R_drew)); exact HO427.out⟩, ⟨by repeat (first | (with_reducible first | exact HB.out | apply below_alloc | apply pw_below_drewN | apply below_drew1) | exact HB.out)⟩⟩
    · rw [if_neg c10] at H
      have c10b0 : (t425 == 0) = false := beq_eq_false_iff_ne.mpr c10
      have c10b1 : (t425 != 0) = true := bne_iff_ne.mpr c10
      (first | rw [c10b0] | (simp only [i64_w, i32_w]; rw [c10b0]) | skip)
      have H' := Aside0.mk H
      clear H
      go_wp2
      go_meet
      case rel => exact ⟨_, (true), (by first | rfl | (simp; done) | (simp [*]; done)), H', ⟨by first | omega | exact Nat.le_refl _⟩, ⟨by (with_reducible repeat (first | apply Kd.R_alloc | apply Kd.R_drewN | apply Kd.R_drew)); exact HO422.out⟩, ⟨by (with_reducible repeat (first | apply Kd.R_alloc | apply Kd.R_drewN | apply Kd.R_drew)); exact HO427.out⟩, ⟨by repeat (first | (with_reducible first | exact HB.out | apply below_alloc | apply pw_below_drewN | apply below_drew1) | exact HB.out)⟩⟩
  case rest =>
    clear HC5
    try clear c1
    try clear c2
    try clear p2
    try clear c3
    try clear c10
    try clear c10b0
    try clear c10b1
    try clear c11
    try clear c11b0
    try clear c11b1
    try clear c12
    try clear c12b0
    try clear c12b1
    obtain ⟨kq, x45_4, rfl, HA, HJ4, HO_3, HO_4, HB⟩ := hcut
    cases kq with
    | zero => exact absurd HA.out (by simp [turndownlaw08_RoomsEnough.j0])
    | succ kj4 =>
      have H := HA.out
      clear HA
      simp only [turndownlaw08_RoomsEnough.j0] at H
      by_cases c16 : x45_4 = true
      · subst c16
        have H1 : (some false) = some r := by rw [if_pos rfl] at H; exact H
        clear H
        have H := H1
        clear H1
        obtain rfl := Option.some.inj H
        go_wp2
        go_ret
        exact ⟨by first | rfl | (simp [errW_none, errW_some] <;> rfl) | (simp [*, errW_none, errW_some] <;> rfl), by repeat (first | (with_reducible first | exact HB.out | apply below_alloc | apply pw_below_drewN | apply below_drew1) | exact HB.out)⟩
      · replace c16 := Bool.eq_false_iff.mpr c16
        subst c16
        have H1 : (turndownlaw08_RoomsEnough.l0 kj4 t420 t423 t424 0) = some r := by rw [if_neg (show ¬ (false = true) by decide)] at H; exact H
        clear H
        have H := H1
        clear H1
        have H' := Aside0.mk H
        clear H
        go_wp2
        go_loopg [10] kj4 (fun kq v10 w' => ∃ (x10_2 : Int), v10 = .int .i64 x10_2 ∧ Aside0 (turndownlaw08_RoomsEnough.l0 kq t420 t423 t424 x10_2 = some r) ∧ Aside0 (kq ≤ kj4) ∧ Aside0 (Kd.R k47 47 w' w.heap.size (fun _ => True) (.slice Ao7 t420.length co7) t420) ∧ Aside0 (Kd.R (Kd.int .i64) 3 w' w.heap.size (fun _ => True) v426 t423) ∧ Aside0 (Below w.heap.size w w'))
        case atStart => exact ⟨(0), (by first | rfl | (simp; done) | (simp [*]; done)), H', ⟨Nat.le_refl _⟩, ⟨by (with_reducible repeat (first | apply Kd.R_alloc | apply Kd.R_drewN | apply Kd.R_drew)); exact HO_3.out⟩, ⟨by (with_reducible repeat (first | apply Kd.R_alloc | apply Kd.R_drewN | apply Kd.R_drew)); exact HO_4.out⟩, ⟨by repeat (first | (with_reducible first | exact HB.out | apply below_alloc | apply pw_below_drewN | apply below_drew1) | exact HB.out)⟩⟩
        case round =>
          clear H'
          try clear c1
          try clear c2
          try clear p2
          try clear c3
          try clear c10
          try clear c10b0
          try clear c10b1
          try clear c11
          try clear c11b0
          try clear c11b1
          try clear c12
          try clear c12b0
          try clear c12b1
          try clear c16
          try clear p2
          obtain ⟨x10_2, rfl, HA, HK2, HO_3, HO_4, HB⟩ := hrel
          cases gk with
          | zero => exact absurd HA.out (by simp [turndownlaw08_RoomsEnough.l0])
          | succ k2 =>
            have H := HA.out
            clear HA
            simp only [turndownlaw08_RoomsEnough.l0] at H
            by_cases c17 : x10_2 < (t423.length : Int)
            · rw [if_pos c17] at H
              have c17b0 : decide (x10_2 < (t423.length : Int)) = true := decide_eq_true c17
              clear c17
              by_cases c18 : 0 ≤ x10_2
              · rw [if_pos c18] at H
                have c18b0 : decide (0 ≤ x10_2) = true := decide_eq_true c18
                clear c18
                by_cases c19 : (rd t423 x10_2) ≥ t424
                · rw [if_pos c19] at H
                  have c19b0 : decide (t424 ≤ (rd t423 x10_2)) = true := decide_eq_true c19
                  clear c19
                  obtain rfl := Option.some.inj H
                  obtain ⟨Ao20, co20, eo20⟩ := Kd.R_slice HO_4.out
                  subst eo20
                  have p432 : 0 ≤ (x10_2 : Int) := of_decide_eq_true (by first | (with_reducible assumption) | assumption)
                  have q432 : x10_2 < (t423.length : Int) := of_decide_eq_true (by first | (with_reducible assumption) | assumption)
                  obtain ⟨ad432, e432, hx432_0⟩ := Kd.at_int (Kd.R_reads' HO_4.out).2.2 x10_2 p432 q432
                  cases e432
                  replace p432 := eq_true p432
                  replace q432 := eq_true q432
                  go_wp2
                  go_ret
                  exact ⟨by first | rfl | (simp [errW_none, errW_some] <;> rfl) | (simp [*, errW_none, errW_some] <;> rfl), by repeat (first | (with_reducible first | exact HB.out | apply below_alloc | apply pw_below_drewN | apply below_drew1) | exact HB.out)⟩
                · rw [if_neg c19] at H
                  have c19b0 : decide (t424 ≤ (rd t423 x10_2)) = false := decide_eq_false c19
                  clear c19
                  have H' := Aside0.mk H
                  clear H
                  obtain ⟨Ao21, co21, eo21⟩ := Kd.R_slice HO_4.out
                  subst eo21
                  have p432 : 0 ≤ (x10_2 : Int) := of_decide_eq_true (by first | (with_reducible assumption) | assumption)
                  have q432 : x10_2 < (t423.length : Int) := of_decide_eq_true (by first | (with_reducible assumption) | assumption)
                  obtain ⟨ad432, e432, hx432_0⟩ := Kd.at_int (Kd.R_reads' HO_4.out).2.2 x10_2 p432 q432
                  cases e432
                  replace p432 := eq_true p432
                  replace q432 := eq_true q432
                  go_wp2
                  go_roundg k2
                  case measure => have := HJ4.out; have := HK2.out; omega
                  case rel => exact ⟨(wrap64 (x10_2 + 1)), (by first | rfl | (simp; done) | (simp [*]; done)), H', ⟨by have := HJ4.out; have := HK2.out; omega⟩, ⟨by (with_reducible repeat (first | apply Kd.R_alloc | apply Kd.R_drewN | apply Kd.R_drew)); exact HO_3.out⟩, ⟨by (with_reducible repeat (first | apply Kd.R_alloc | apply Kd.R_drewN | apply Kd.R_drew)); exact HO_4.out⟩, ⟨by repeat (first | (with_reducible first | exact HB.out | apply below_alloc | apply pw_below_drewN | apply below_drew1) | exact HB.out)⟩⟩
              · rw [if_neg c18] at H
                exact absurd H (by simp)
            · rw [if_neg c17] at H
              have c17b0 : decide (x10_2 < (t423.length : Int)) = false := decide_eq_false c17
              clear c17
              by_cases c22 : t424 > 8
              · rw [if_pos c22] at H
                have c22b0 : decide (8 < t424) = true := decide_eq_true c22
                clear c22
                replace H := Option.bind_eq_some_iff.mp H
                obtain ⟨t433, A230, H⟩ := H
                replace H : (some t433) = some r := H
                have A23 := Aside0.mk A230
                clear A230
                obtain rfl := Option.some.inj H
                obtain ⟨Ao24, co24, eo24⟩ := Kd.R_slice HO_4.out
                subst eo24
                go_wp2_with (first | ((with_reducible refine gate_callee (f := 20) rfl ?_); refine goesL_ (some 60) rfl rfl Try.func20 (by kernel_rfl) rfl #[] rfl (by (try simp only [List.map_toArray, List.map_cons, List.map_nil]); first | done | rfl | (simp only [List.length_drop, List.length_take]; rfl)) ?_; (with_reducible refine (turndownlaw08_awake.calls  t433 _ A23.out).mono ?_); rintro e w25 ⟨rfl, hb⟩; refine ⟨_, rfl, ?_⟩; have n0_ := Aside0.mk (Kd.R_below (by (with_reducible repeat (first | apply Kd.R_alloc | apply Kd.R_drewN | apply Kd.R_drew)); exact HO_3.out) hb); have n1_ := Aside0.mk (Kd.R_below (by (with_reducible repeat (first | apply Kd.R_alloc | apply Kd.R_drewN | apply Kd.R_drew)); exact HO_4.out) hb); have n2_ := Aside0.mk (below_step (by repeat (first | (with_reducible first | exact HB.out | apply below_alloc | apply pw_below_drewN | apply below_drew1) | exact HB.out)) hb); clear HO_3; clear HO_4; clear HB; have HO_3 := n0_; have HO_4 := n1_; have HB := n2_; clear n0_ n1_ n2_; (try clear hb); (try clear hb2); (try clear hk); (try clear hi)))
                go_ret
                exact ⟨by first | rfl | (simp [errW_none, errW_some] <;> rfl) | (simp [*, errW_none, errW_some] <;> rfl), by repeat (first | (with_reducible first | exact HB.out | apply below_alloc | apply pw_below_drewN | apply below_drew1) | exact HB.out)⟩
              · rw [if_neg c22] at H
                have c22b0 : decide (8 < t424) = false := decide_eq_false c22
                clear c22
                have H' := Aside0.mk H
                clear H
                obtain ⟨Ao26, co26, eo26⟩ := Kd.R_slice HO_4.out
                subst eo26
                go_wp2
                go_loopg [11, 12] k2 (fun kq v11 v12 w' => ∃ (x11_3 : Int) (x12_3 : Int), v11 = .int .i64 x11_3 ∧ v12 = .int .i64 x12_3 ∧ Aside0 (turndownlaw08_RoomsEnough.l1 kq t420 t424 x11_3 x12_3 = some r) ∧ Aside0 (kq ≤ k2) ∧ Aside0 (Kd.R k47 47 w' w.heap.size (fun _ => True) (.slice Ao7 t420.length co7) t420) ∧ Aside0 (Below w.heap.size w w'))
                case atStart => exact ⟨(0), (0), (by first | rfl | (simp; done) | (simp [*]; done)), (by first | rfl | (simp; done) | (simp [*]; done)), H', ⟨Nat.le_refl _⟩, ⟨by (with_reducible repeat (first | apply Kd.R_alloc | apply Kd.R_drewN | apply Kd.R_drew)); exact HO_3.out⟩, ⟨by repeat (first | (with_reducible first | exact HB.out | apply below_alloc | apply pw_below_drewN | apply below_drew1) | exact HB.out)⟩⟩
                case round =>
                  clear H'
                  try clear c1
                  try clear c2
                  try clear p2
                  try clear c3
                  try clear p4
                  try clear q4
                  try clear hx4
                  try clear p6
                  try clear c10
                  try clear c10b0
                  try clear c10b1
                  try clear c11
                  try clear c11b0
                  try clear c11b1
                  try clear c12
                  try clear c12b0
                  try clear c12b1
                  try clear c16
                  try clear c17
                  try clear c17b0
                  try clear c18
                  try clear c18b0
                  try clear c19
                  try clear c19b0
                  try clear c20
                  try clear c22
                  try clear c22b0
                  try clear c24
                  try clear hx432_0
                  try clear p2
                  try clear p432
                  try clear q432
                  obtain ⟨x11_3, x12_3, rfl, rfl, HA, HK3, HO_3, HB⟩ := hrel
                  cases gk with
                  | zero => exact absurd HA.out (by simp [turndownlaw08_RoomsEnough.l1])
                  | succ k3 =>
                    have H := HA.out
                    clear HA
                    simp only [turndownlaw08_RoomsEnough.l1] at H
                    by_cases c27 : x12_3 < (t420.length : Int)
                    · rw [if_pos c27] at H
                      have c27b0 : decide (x12_3 < (t420.length : Int)) = true := decide_eq_true c27
                      clear c27
                      by_cases c28 : 0 ≤ x12_3
                      · rw [if_pos c28] at H
                        have c28b0 : decide (0 ≤ x12_3) = true := decide_eq_true c28
                        clear c28
                        have H' := Aside0.mk H
                        clear H
                        have p434 : 0 ≤ (x12_3 : Int) := of_decide_eq_true (by first | (with_reducible assumption) | assumption)
                        have q434 : x12_3 < (t420.length : Int) := of_decide_eq_true (by first | (with_reducible assumption) | assumption)
                        obtain ⟨ad434, e434, hx434_0, hx434_1, hx434_2⟩ := at_T47 (Kd.R_reads' HO_3.out).2.2 x12_3 p434 q434
                        cases e434
                        replace p434 := eq_true p434
                        replace q434 := eq_true q434
                        go_wp2
                        go_roundg k3
                        case measure => have := HJ4.out; have := HK2.out; have := HK3.out; omega
                        case rel => exact ⟨(wrap64 (x11_3 + ((rd_T47 t420 x12_3).f2))), (wrap64 (x12_3 + 1)), (by first | rfl | (simp; done) | (simp [*]; done)), (by first | rfl | (simp; done) | (simp [*]; done)), H', ⟨by have := HJ4.out; have := HK2.out; have := HK3.out; omega⟩, ⟨by (with_reducible repeat (first | apply Kd.R_alloc | apply Kd.R_drewN | apply Kd.R_drew)); exact HO_3.out⟩, ⟨by repeat (first | (with_reducible first | exact HB.out | apply below_alloc | apply pw_below_drewN | apply below_drew1) | exact HB.out)⟩⟩
                      · rw [if_neg c28] at H
                        exact absurd H (by simp)
                    · rw [if_neg c27] at H
                      have c27b0 : decide (x12_3 < (t420.length : Int)) = false := decide_eq_false c27
                      clear c27
                      have H' := Aside0.mk H
                      clear H
                      go_wp2
                      go_loopg [13, 14] k3 (fun kq v13 v14 w' => ∃ (x13_4 : List Int) (x14_4 : Int), v14 = .int .i64 x14_4 ∧ Aside0 (turndownlaw08_RoomsEnough.l2 kq t420 t424 x11_3 x13_4 x14_4 = some r) ∧ Aside0 (kq ≤ k3) ∧ Aside0 (Kd.R k47 47 w' w.heap.size (fun _ => True) (.slice Ao7 t420.length co7) t420) ∧ Aside0 (Kd.R (Kd.int .i64) 3 w' w.heap.size (fun _ => True) v13 x13_4) ∧ Aside0 (Below w.heap.size w w'))
                      case atStart => exact ⟨(([] : List Int)), (0), (by first | rfl | (simp; done) | (simp [*]; done)), H', ⟨Nat.le_refl _⟩, ⟨by (with_reducible repeat (first | apply Kd.R_alloc | apply Kd.R_drewN | apply Kd.R_drew)); exact HO_3.out⟩, ⟨by first | exact Kd.R_nil _ _ _ _ _ | exact Kd.N_nil _ _ _ _ _ | exact Kd.V_nil _ _ _ _ _ | exact Kd.Q_nil _ _ _ _ _ | exact Kd.S_nil _ _ _ _ _⟩, ⟨by repeat (first | (with_reducible first | exact HB.out | apply below_alloc | apply pw_below_drewN | apply below_drew1) | exact HB.out)⟩⟩
                      case round =>
                        clear H'
                        try clear c1
                        try clear c2
                        try clear p2
                        try clear c3
                        try clear p4
                        try clear q4
                        try clear hx4
                        try clear p6
                        try clear c10
                        try clear c10b0
                        try clear c10b1
                        try clear c11
                        try clear c11b0
                        try clear c11b1
                        try clear c12
                        try clear c12b0
                        try clear c12b1
                        try clear c16
                        try clear c17
                        try clear c17b0
                        try clear c18
                        try clear c18b0
                        try clear c19
                        try clear c19b0
                        try clear c20
                        try clear c22
                        try clear c22b0
                        try clear c24
                        try clear c27
                        try clear c27b0
                        try clear c28
                        try clear c28b0
                        try clear hx432_0
                        try clear hx434_0
                        try clear hx434_1
                        try clear hx434_2
                        try clear p2
                        try clear p4
                        try clear p432
                        try clear p434
                        try clear p6
                        try clear q4
                        try clear q432
                        try clear q434
                        obtain ⟨x13_4, x14_4, rfl, HA, HK4, HO_3, HO_13, HB⟩ := hrel
                        cases gk with
                        | zero => exact absurd HA.out (by simp [turndownlaw08_RoomsEnough.l2])
                        | succ k4 =>
                          have H := HA.out
                          clear HA
                          simp only [turndownlaw08_RoomsEnough.l2] at H
                          by_cases c29 : x14_4 < 60
                          · rw [if_pos c29] at H
                            have c29b0 : decide (x14_4 < 60) = true := decide_eq_true c29
                            clear c29
                            by_cases c30 : x13_4.length < 17592186044416
                            · rw [if_pos c30] at H
                              have LMc30 := Aside0.mk c30
                              clear c30
                              obtain ⟨y435, hy435⟩ : ∃ y_ : List Int, y_ = (x13_4 ++ [t424]) := ⟨_, rfl⟩
                              replace H : (turndownlaw08_RoomsEnough.l2 k4 t420 t424 x11_3 y435 (wrap64 (x14_4 + 1))) = some r := by first | (rw [hy435]; with_reducible exact H) | (have H2_ := (Option.bind_some _ _).symm.trans H; rw [hy435]; with_reducible exact H2_) | (have H2_ := (Option.bind_some _ _).symm.trans H; with_reducible exact H2_) | with_reducible exact H | (rw [hy435]; exact H) | exact H
                              have Ny435 := Aside0.mk hy435
                              clear hy435
                              have H' := Aside0.mk H
                              clear H
                              go_wp2_with (first | ((with_reducible refine gate_builtin (b := .append) (xs := #[.tmp 78, .tmp 80]) rfl ?_); at_builtin; refine Kd.R_append (Kd.int .i64) (w0 := w) w.heap.size rfl (.tmp 78) (.tmp 80) 23 3 (.int .i64 0) 8 rfl Try.underlying23 info3 rfl (by decide) (by omega) u13 x13_4 t424 [.int .i64 t424] (fun _ => True) (fun _ => False) rfl rfl ?aP (fun _ hk => hk.elim) ?aF ?aO ?aB ?aS ?aL ?_; (case aP => exact rfl); (case aB => exact (by repeat (first | (with_reducible first | exact HB.out | apply below_alloc | apply pw_below_drewN | apply below_drew1) | exact HB.out))); (case aF => exact (fun _ _ => trivial)); (case aO => exact (by (with_reducible repeat (first | apply Kd.R_alloc | apply Kd.R_drewN | apply Kd.R_drew)); exact HO_13.out)); (case aS => exact (below_size (by repeat (first | (with_reducible first | exact HB.out | apply below_alloc | apply pw_below_drewN | apply below_drew1) | exact HB.out)))); (case aL => have := LMc30.out; omega); intro v436 w31 ho hb hg hat; rw [← Ny435.out] at ho; have n0_ := Aside0.mk (Kd.R_over' (by (with_reducible repeat (first | apply Kd.R_alloc | apply Kd.R_drewN | apply Kd.R_drew)); exact HO_3.out) (Kd.R_typed (by (with_reducible repeat (first | apply Kd.R_alloc | apply Kd.R_drewN | apply Kd.R_drew)); exact HO_13.out)) (by decide) hg); have n1_ := Aside0.mk (hb); have n2_ := Aside0.mk (ho); clear HO_3; clear HB; clear HO_13; have HO_3 := n0_; have HB := n1_; have HO437 := n2_; clear n0_ n1_ n2_; clear ho hb hg hat))
                              go_roundg k4
                              case measure => have := HJ4.out; have := HK2.out; have := HK3.out; have := HK4.out; omega
                              case rel => exact ⟨(y435), (wrap64 (x14_4 + 1)), (by first | rfl | (simp; done) | (simp [*]; done)), H', ⟨by have := HJ4.out; have := HK2.out; have := HK3.out; have := HK4.out; omega⟩, ⟨by (with_reducible repeat (first | apply Kd.R_alloc | apply Kd.R_drewN | apply Kd.R_drew)); exact HO_3.out⟩, ⟨by (with_reducible repeat (first | apply Kd.R_alloc | apply Kd.R_drewN | apply Kd.R_drew)); exact HO437.out⟩, ⟨by repeat (first | (with_reducible first | exact HB.out | apply below_alloc | apply pw_below_drewN | apply below_drew1) | exact HB.out)⟩⟩
                            · rw [if_neg c30] at H
                              exact absurd H (by simp)
                          · rw [if_neg c29] at H
                            have c29b0 : decide (x14_4 < 60) = false := decide_eq_false c29
                            clear c29
                            replace H := Option.bind_eq_some_iff.mp H
                            obtain ⟨t438, A320, H⟩ := H
                            replace H : (if t438 = x11_3 then ((turndownlaw08_awake.f).bind fun t439 => (some t439)) else (some false)) = some r := H
                            have A32 := Aside0.mk A320
                            clear A320
                            by_cases c33 : t438 = x11_3
                            · rw [if_pos c33] at H
                              have c33b0 : (t438 == x11_3) = true := beq_iff_eq.mpr c33
                              have c33b1 : (t438 != x11_3) = false := bne_eq_false_iff_eq.mpr c33
                              clear c33
                              replace H := Option.bind_eq_some_iff.mp H
                              obtain ⟨t439, A340, H⟩ := H
                              replace H : (some t439) = some r := H
                              have A34 := Aside0.mk A340
                              clear A340
                              obtain rfl := Option.some.inj H
                              obtain ⟨Ao35, co35, eo35⟩ := Kd.R_slice HO_13.out
                              subst eo35
                              go_wp2_with (first | ((with_reducible refine gate_callee (f := 25) rfl ?_); refine goesL_ (some 84) rfl rfl Try.func25 (by kernel_rfl) rfl #[.slice Ao7 t420.length co7, .slice Ao35 x13_4.length co35] rfl (by (try simp only [List.map_toArray, List.map_cons, List.map_nil]); first | done | rfl | (simp only [List.length_drop, List.length_take]; rfl)) ?_; (with_reducible refine (turndownlaw08_revenue.calls k4 _ _ t420 _ _ x13_4 t438 _ ?side1 ?side2 ?side3 ?side4 A32.out).mono ?_); (case side1 => repeat (first | exact (Kd.R_reads' HO_3.out).2.2 | (with_reducible refine Kd.C_alloc ?_ _) | (with_reducible refine Kd.C_drewN ?_ _) | (with_reducible refine Kd.C_drew ?_))); (case side2 => exact (Kd.R_reads' HO_3.out).2.1); (case side3 => repeat (first | exact (Kd.R_reads' HO_13.out).2.2 | (with_reducible refine Kd.C_alloc ?_ _) | (with_reducible refine Kd.C_drewN ?_ _) | (with_reducible refine Kd.C_drew ?_))); (case side4 => exact (Kd.R_reads' HO_13.out).2.1); rintro e w36 ⟨rfl, hb⟩; refine ⟨_, rfl, ?_⟩; have n0_ := Aside0.mk (Kd.R_below (by (with_reducible repeat (first | apply Kd.R_alloc | apply Kd.R_drewN | apply Kd.R_drew)); exact HO_3.out) hb); have n1_ := Aside0.mk (Kd.R_below (by (with_reducible repeat (first | apply Kd.R_alloc | apply Kd.R_drewN | apply Kd.R_drew)); exact HO_13.out) hb); have n2_ := Aside0.mk (below_step (by repeat (first | (with_reducible first | exact HB.out | apply below_alloc | apply pw_below_drewN | apply below_drew1) | exact HB.out)) hb); clear HO_3; clear HO_13; clear HB; have HO_3 := n0_; have HO_13 := n1_; have HB := n2_; clear n0_ n1_ n2_; (try clear hb); (try clear hb2); (try clear hk); (try clear hi)) | (go_at_call 20; (with_reducible refine (turndownlaw08_awake.calls  t439 _ A34.out).mono ?_); rintro e w37 ⟨rfl, hb⟩; have n0_ := Aside0.mk (Kd.R_below (by (with_reducible repeat (first | apply Kd.R_alloc | apply Kd.R_drewN | apply Kd.R_drew)); exact HO_3.out) hb); have n1_ := Aside0.mk (Kd.R_below (by (with_reducible repeat (first | apply Kd.R_alloc | apply Kd.R_drewN | apply Kd.R_drew)); exact HO_13.out) hb); have n2_ := Aside0.mk (below_step (by repeat (first | (with_reducible first | exact HB.out | apply below_alloc | apply pw_below_drewN | apply below_drew1) | exact HB.out)) hb); clear HO_3; clear HO_13; clear HB; have HO_3 := n0_; have HO_13 := n1_; have HB := n2_; clear n0_ n1_ n2_; (try clear hb); (try clear hb2); (try clear hk); (try clear hi)))
                              go_ret
                              exact ⟨by first | rfl | (simp [errW_none, errW_some] <;> rfl) | (simp [*, errW_none, errW_some] <;> rfl), by repeat (first | (with_reducible first | exact HB.out | apply below_alloc | apply pw_below_drewN | apply below_drew1) | exact HB.out)⟩
                            · rw [if_neg c33] at H
                              have c33b0 : (t438 == x11_3) = false := beq_eq_false_iff_ne.mpr c33
                              have c33b1 : (t438 != x11_3) = true := bne_iff_ne.mpr c33
                              obtain rfl := Option.some.inj H
                              obtain ⟨Ao38, co38, eo38⟩ := Kd.R_slice HO_13.out
                              subst eo38
                              go_wp2_with (first | ((with_reducible refine gate_callee (f := 25) rfl ?_); refine goesL_ (some 84) rfl rfl Try.func25 (by kernel_rfl) rfl #[.slice Ao7 t420.length co7, .slice Ao38 x13_4.length co38] rfl (by (try simp only [List.map_toArray, List.map_cons, List.map_nil]); first | done | rfl | (simp only [List.length_drop, List.length_take]; rfl)) ?_; (with_reducible refine (turndownlaw08_revenue.calls k4 _ _ t420 _ _ x13_4 t438 _ ?side1 ?side2 ?side3 ?side4 A32.out).mono ?_); (case side1 => repeat (first | exact (Kd.R_reads' HO_3.out).2.2 | (with_reducible refine Kd.C_alloc ?_ _) | (with_reducible refine Kd.C_drewN ?_ _) | (with_reducible refine Kd.C_drew ?_))); (case side2 => exact (Kd.R_reads' HO_3.out).2.1); (case side3 => repeat (first | exact (Kd.R_reads' HO_13.out).2.2 | (with_reducible refine Kd.C_alloc ?_ _) | (with_reducible refine Kd.C_drewN ?_ _) | (with_reducible refine Kd.C_drew ?_))); (case side4 => exact (Kd.R_reads' HO_13.out).2.1); rintro e w39 ⟨rfl, hb⟩; refine ⟨_, rfl, ?_⟩; have n0_ := Aside0.mk (Kd.R_below (by (with_reducible repeat (first | apply Kd.R_alloc | apply Kd.R_drewN | apply Kd.R_drew)); exact HO_3.out) hb); have n1_ := Aside0.mk (Kd.R_below (by (with_reducible repeat (first | apply Kd.R_alloc | apply Kd.R_drewN | apply Kd.R_drew)); exact HO_13.out) hb); have n2_ := Aside0.mk (below_step (by repeat (first | (with_reducible first | exact HB.out | apply below_alloc | apply pw_below_drewN | apply below_drew1) | exact HB.out)) hb); clear HO_3; clear HO_13; clear HB; have HO_3 := n0_; have HO_13 := n1_; have HB := n2_; clear n0_ n1_ n2_; (try clear hb); (try clear hb2); (try clear hk); (try clear hi)))
                              go_ret
                              exact ⟨by first | rfl | (simp [errW_none, errW_some] <;> rfl) | (simp [*, errW_none, errW_some] <;> rfl), by repeat (first | (with_reducible first | exact HB.out | apply below_alloc | apply pw_below_drewN | apply below_drew1) | exact HB.out)⟩
end Go.Proofs.Ytpjobcnfjpbaeaa.PA

namespace Go.Proofs.Ytpjobcnfjpbaeaa.M
open Go.RowKit Go.Proofs.YtpjobcnfjpbaeaaW.PrintWords Go.Proofs.YtpjobcnfjpbaeaaW.PrintLast Go.Proofs.YtpjobcnfjpbaeaaW.PrintMore
open Go.Proofs.Ytpjobcnfjpbaeaa.PA Go.Proofs.Ytpjobcnfjpbaeaa.A
structure Ext (I I' : Inst) (p : Int) (c : Nat → Int) : Prop where
  L : I'.L = I.L + 1
  n : I'.n = I.n
  R : ∀ k, k < I.n → I'.R k = I.R k
  cov : ∀ i k, i < I.L → I'.cov i k = I.cov i k
  pr : ∀ i, i < I.L → I'.p i = I.p i
  covL : ∀ k, I'.cov I.L k = c k
  pL : I'.p I.L = p
theorem Ext.rev {I I' : Inst} {p : Int} {c : Nat → Int} (h : Ext I I' p c) (X : Nat → Int) : I'.Rev X = I.Rev X + X I.L * p := by
  unfold Inst.Rev
  rw [h.L, sumTo, h.pL, sumTo_congr (g := fun i => X i * I.p i) (fun i hi => by rw [h.pr i hi])]
theorem Ext.sum {I I' : Inst} {p : Int} {c : Nat → Int} (h : Ext I I' p c) (X : Nat → Int) (k : Nat) : sumTo I'.L (fun i => X i * I'.cov i k) = sumTo I.L (fun i => X i * I.cov i k) + X I.L * c k := by
  rw [h.L, sumTo, h.covL, sumTo_congr (g := fun i => X i * I.cov i k) (fun i hi => by rw [h.cov i k hi])]
theorem upd_rev {I : Inst} (X : Nat → Int) (y : Int) : I.Rev (upd X I.L y) = I.Rev X := by
  unfold Inst.Rev
  exact sumTo_congr (fun i hi => by rw [upd_ne (by omega)])
theorem upd_used {I : Inst} (X : Nat → Int) (y : Int) (k : Nat) : sumTo I.L (fun i => upd X I.L y i * I.cov i k) = sumTo I.L (fun i => X i * I.cov i k) := sumTo_congr (fun i hi => by rw [upd_ne (by omega)])
theorem Ext.one {I I' : Inst} {p : Int} {c : Nat → Int} (h : Ext I I' p c) {X : Nat → Int} (hX : ∀ i, i < I.L → X i = 0 ∨ X i = 1) {y : Int} (hy : y = 0 ∨ y = 1) : ∀ i, i < I'.L → upd X I.L y i = 0 ∨ upd X I.L y i = 1 := by
  intro i hi
  rw [h.L] at hi
  by_cases e : i = I.L
  · rw [e, upd_same]; exact hy
  · rw [upd_ne e]; exact hX i (by omega)
structure Cut (I J : Inst) (c : Nat → Int) : Prop where
  L : J.L = I.L
  n : J.n = I.n
  cov : ∀ i k, i < I.L → J.cov i k = I.cov i k
  pr : ∀ i, i < I.L → J.p i = I.p i
  R : ∀ k, k < I.n → J.R k = I.R k - c k
theorem Cut.rev {I J : Inst} {c : Nat → Int} (h : Cut I J c) (X : Nat → Int) : J.Rev X = I.Rev X := by
  unfold Inst.Rev
  rw [h.L]
  exact sumTo_congr (fun i hi => by rw [h.pr i hi])
theorem Cut.sum {I J : Inst} {c : Nat → Int} (h : Cut I J c) (X : Nat → Int) (k : Nat) : sumTo J.L (fun i => X i * J.cov i k) = sumTo I.L (fun i => X i * I.cov i k) := by
  rw [h.L]
  exact sumTo_congr (fun i hi => by rw [h.cov i k hi])
theorem Ext.down {I I' : Inst} {p : Int} {c : Nat → Int} (h : Ext I I' p c) (hc : ∀ k, 0 ≤ c k) {X : Nat → Int} (hX : I'.Fit X) : I.Fit X := by
  refine ⟨fun i hi => hX.one i (by rw [h.L]; omega), fun k hk => ?_⟩
  have h1 := hX.fit k (by rw [h.n]; exact hk)
  rw [h.sum, h.R k hk] at h1
  have h2 := hc k
  rcases hX.one I.L (by rw [h.L]; omega) with e | e <;> rw [e] at h1 <;> omega
theorem Ext.up0 {I I' : Inst} {p : Int} {c : Nat → Int} (h : Ext I I' p c) {X : Nat → Int} (hX : I.Fit X) : I'.Fit (upd X I.L 0) := by
  refine ⟨h.one hX.one (.inl rfl), fun k hk => ?_⟩
  rw [h.n] at hk
  rw [h.sum, h.R k hk, upd_same, upd_used, Int.zero_mul, Int.add_zero]
  exact hX.fit k hk
theorem Ext.worth {I I' J : Inst} {p : Int} {c : Nat → Int} (h : Ext I I' p c) (hJ : Cut I J c) (hI : I.Ok) (hI' : I'.Ok) (okJ : J.Ok) (hc : ∀ k, 0 ≤ c k) {n m v : Int} (hn : I.Opt n) (hm : I'.Opt m) (hv : J.Opt v) : m = max n (p + v) := by
  have h1 : n ≤ m := by
    obtain ⟨X, q, hX, _, hr, _⟩ := hn
    have := hm.max hI' (h.up0 hX)
    rw [h.rev, upd_same, upd_rev, Int.zero_mul, Int.add_zero, hr] at this
    exact this
  have h2 : p + v ≤ m := by
    obtain ⟨X, q, hX, _, hr, _⟩ := hv
    have hf : I'.Fit (upd X I.L 1) := by
      refine ⟨h.one (fun i hi => hX.one i (by rw [hJ.L]; exact hi)) (.inr rfl), fun k hk => ?_⟩
      rw [h.n] at hk
      rw [h.sum, h.R k hk, upd_same, upd_used, Int.one_mul]
      have := hX.fit k (by rw [hJ.n]; exact hk)
      rw [hJ.sum, hJ.R k hk] at this
      omega
    have := hm.max hI' hf
    rw [h.rev, upd_same, upd_rev, Int.one_mul] at this
    rw [hJ.rev] at hr
    omega
  have h3 : m ≤ n ∨ m ≤ p + v := by
    obtain ⟨X, q, hX, _, hr, _⟩ := hm
    rw [h.rev] at hr
    rcases hX.one I.L (by rw [h.L]; omega) with e | e
    · left
      have := hn.max hI (h.down hc hX)
      rw [e] at hr
      omega
    · right
      have hf : J.Fit X := by
        refine ⟨fun i hi => hX.one i (by rw [h.L]; rw [hJ.L] at hi; omega), fun k hk => ?_⟩
        rw [hJ.n] at hk
        have h4 := hX.fit k (by rw [h.n]; exact hk)
        rw [h.sum, h.R k hk, e, Int.one_mul] at h4
        rw [hJ.sum, hJ.R k hk]
        omega
      have := hv.max okJ hf
      rw [hJ.rev] at this
      rw [e] at hr
      omega
  omega
structure Dear (I J : Inst) (j : Nat) (d : Int) : Prop where
  L : J.L = I.L
  n : J.n = I.n
  R : ∀ k, k < I.n → J.R k = I.R k
  cov : ∀ i k, i < I.L → J.cov i k = I.cov i k
  pr : ∀ i, i < I.L → i ≠ j → J.p i = I.p i
  lt : j < I.L
  at_ : J.p j = I.p j + d
theorem Dear.rev {I J : Inst} {j : Nat} {d : Int} (h : Dear I J j d) (X : Nat → Int) : J.Rev X = I.Rev X + X j * d := by
  unfold Inst.Rev
  rw [h.L, sumTo_one (f := fun i => X i * I.p i) h.lt (fun i hi hne => by rw [h.pr i hi hne]), h.at_, Int.mul_add]
  omega
theorem Dear.sum {I J : Inst} {j : Nat} {d : Int} (h : Dear I J j d) (X : Nat → Int) (k : Nat) : sumTo J.L (fun i => X i * J.cov i k) = sumTo I.L (fun i => X i * I.cov i k) := by
  rw [h.L]
  exact sumTo_congr (fun i hi => by rw [h.cov i k hi])
theorem Dear.fit {I J : Inst} {j : Nat} {d : Int} (h : Dear I J j d) {X : Nat → Int} : J.Fit X ↔ I.Fit X := by
  constructor
  · intro hX
    refine ⟨fun i hi => hX.one i (by rw [h.L]; exact hi), fun k hk => ?_⟩
    have := hX.fit k (by rw [h.n]; exact hk)
    rw [h.sum, h.R k hk] at this
    exact this
  · intro hX
    refine ⟨fun i hi => hX.one i (by rw [h.L] at hi; exact hi), fun k hk => ?_⟩
    rw [h.n] at hk
    rw [h.sum, h.R k hk]
    exact hX.fit k hk
def covL (x : S47) (k : Nat) : Int := if x.f0.toNat ≤ k ∧ k < x.f1.toNat then 1 else 0
end Go.Proofs.Ytpjobcnfjpbaeaa.M

namespace Go.Proofs.Ytpjobcnfjpbaeaa.M
open Go.RowKit Go.Proofs.YtpjobcnfjpbaeaaW.PrintWords Go.Proofs.YtpjobcnfjpbaeaaW.PrintLast Go.Proofs.YtpjobcnfjpbaeaaW.PrintMore
open Go.Proofs.Ytpjobcnfjpbaeaa.PA Go.Proofs.Ytpjobcnfjpbaeaa.A
structure Mirror (I J : Inst) : Prop where
  L : J.L = I.L
  n : J.n = I.n
  pr : ∀ i, i < I.L → J.p i = I.p i
  cov : ∀ i k, i < I.L → k < I.n → J.cov i k = I.cov i (I.n - 1 - k)
  R : ∀ k, k < I.n → J.R k = I.R (I.n - 1 - k)
theorem Mirror.rev {I J : Inst} (h : Mirror I J) (X : Nat → Int) : J.Rev X = I.Rev X := by
  unfold Inst.Rev
  rw [h.L]
  exact sumTo_congr (fun i hi => by rw [h.pr i hi])
theorem Mirror.fit {I J : Inst} (h : Mirror I J) {X : Nat → Int} : J.Fit X ↔ I.Fit X := by
  constructor
  · intro hX
    refine ⟨fun i hi => hX.one i (by rw [h.L]; exact hi), fun k hk => ?_⟩
    have h1 := hX.fit (I.n - 1 - k) (by rw [h.n]; omega)
    rw [h.L, h.R _ (by omega), sumTo_congr (g := fun i => X i * I.cov i k) (fun i hi => by rw [h.cov i _ hi (by omega), show I.n - 1 - (I.n - 1 - k) = k by omega])] at h1
    rw [show I.n - 1 - (I.n - 1 - k) = k by omega] at h1
    exact h1
  · intro hX
    refine ⟨fun i hi => hX.one i (by rw [h.L] at hi; exact hi), fun k hk => ?_⟩
    rw [h.n] at hk
    rw [h.L, h.R k hk, sumTo_congr (g := fun i => X i * I.cov i (I.n - 1 - k)) (fun i hi => by rw [h.cov i k hi hk])]
    exact hX.fit _ (by omega)
structure Scaled (I J : Inst) (c : Int) : Prop where
  L : J.L = I.L
  n : J.n = I.n
  pr : ∀ i, i < I.L → J.p i = c * I.p i
  cov : ∀ i k, i < I.L → J.cov i k = I.cov i k
  R : ∀ k, k < I.n → J.R k = I.R k
theorem Scaled.rev {I J : Inst} {c : Int} (h : Scaled I J c) (X : Nat → Int) : J.Rev X = c * I.Rev X := by
  unfold Inst.Rev
  rw [h.L, ← sumTo_mul]
  exact sumTo_congr (fun i hi => by rw [h.pr i hi, ← Int.mul_assoc, Int.mul_comm (X i) c, Int.mul_assoc])
theorem Scaled.fit {I J : Inst} {c : Int} (h : Scaled I J c) {X : Nat → Int} : J.Fit X ↔ I.Fit X := by
  constructor
  · intro hX
    refine ⟨fun i hi => hX.one i (by rw [h.L]; exact hi), fun k hk => ?_⟩
    have h1 := hX.fit k (by rw [h.n]; exact hk)
    rw [h.L, h.R k hk, sumTo_congr (g := fun i => X i * I.cov i k) (fun i hi => by rw [h.cov i k hi])] at h1
    exact h1
  · intro hX
    refine ⟨fun i hi => hX.one i (by rw [h.L] at hi; exact hi), fun k hk => ?_⟩
    rw [h.n] at hk
    rw [h.L, h.R k hk, sumTo_congr (g := fun i => X i * I.cov i k) (fun i hi => by rw [h.cov i k hi])]
    exact hX.fit k hk
end Go.Proofs.Ytpjobcnfjpbaeaa.M

namespace Go.Proofs.Ytpjobcnfjpbaeaa.M
open Go.RowKit Go.Proofs.YtpjobcnfjpbaeaaW.PrintWords Go.Proofs.YtpjobcnfjpbaeaaW.PrintLast Go.Proofs.YtpjobcnfjpbaeaaW.PrintMore
open Go.Proofs.Ytpjobcnfjpbaeaa.PA Go.Proofs.Ytpjobcnfjpbaeaa.A
theorem mem_getD {l : List S47} {i : Nat} (hi : i < l.length) : l.getD i z47 ∈ l := by rw [List.getD_eq_getElem?_getD, List.getElem?_eq_getElem hi]; exact List.getElem_mem hi
end Go.Proofs.Ytpjobcnfjpbaeaa.M

namespace Go.Proofs.Ytpjobcnfjpbaeaa.N
open Go.RowKit Go.Proofs.YtpjobcnfjpbaeaaW.PrintWords Go.Proofs.YtpjobcnfjpbaeaaW.PrintLast Go.Proofs.YtpjobcnfjpbaeaaW.PrintMore
open Go.Proofs.Ytpjobcnfjpbaeaa.PA Go.Proofs.Ytpjobcnfjpbaeaa.M Go.Proofs.Ytpjobcnfjpbaeaa.A
theorem accept_ev {l : List S47} {r : List Int} (hg : A.Good l r) : ∃ tk pr v, Ev (fun k => rooms_Accept.f k l r) (tk, pr, v, 0) ∧ RightP l r tk pr ∧ (inst l r).Rev (ind tk) = v ∧ (inst l r).Opt v ∧ 0 ≤ v ∧ v ≤ 40000000 ∧ tk.length ≤ 40 := by
  obtain ⟨K, tk, pr, v, h, h1⟩ := best_right hg
  refine ⟨tk, pr, v, ⟨K, fun k hk => ?_⟩, h1⟩
  show rooms_Accept.f k l r = _
  unfold rooms_Accept.f
  rw [checkB_iff.2 hg, if_pos rfl, h k hk]
  rfl
theorem revenue_ev {l : List S47} {r : List Int} (hg : A.Good l r) : ∃ v, Ev (fun k => turndownlaw08_revenue.f k l r) v ∧ (inst l r).Opt v ∧ 0 ≤ v ∧ v ≤ 40000000 := by
  obtain ⟨tk, pr, v, h, _, _, h2, h3, h4, _⟩ := accept_ev hg
  refine ⟨v, ?_, h2, h3, h4⟩
  unfold turndownlaw08_revenue.f
  exact h.bind ⟨0, fun _ _ => by simp⟩
end Go.Proofs.Ytpjobcnfjpbaeaa.N

namespace Go.Proofs.Ytpjobcnfjpbaeaa.M
open Go.RowKit Go.Proofs.YtpjobcnfjpbaeaaW.PrintWords Go.Proofs.YtpjobcnfjpbaeaaW.PrintLast Go.Proofs.YtpjobcnfjpbaeaaW.PrintMore
open Go.Proofs.Ytpjobcnfjpbaeaa.PA Go.Proofs.Ytpjobcnfjpbaeaa.A
theorem inj_le {α β : Type} [DecidableEq β] (g : α → β) : ∀ (T : List α) (V : List β), (T.map g).Nodup → (∀ x ∈ T, g x ∈ V) → T.length ≤ V.length
  | [], V, _, _ => Nat.zero_le _
  | x :: T, V, hn, hm => by
    rw [List.map_cons, List.nodup_cons] at hn
    have hx := hm x (List.mem_cons_self)
    have ih := inj_le g T (V.erase (g x)) hn.2 (fun y hy => (List.mem_erase_of_ne (show g y ≠ g x from fun e => hn.1 (by rw [← e]; exact List.mem_map_of_mem hy))).2 (hm y (List.mem_cons_of_mem _ hy)))
    rw [List.length_erase_of_mem hx] at ih
    have := List.length_pos_of_mem hx
    simp only [List.length_cons]
    omega
def bF (l : List S47) (i : Int) : Int := (l.getD i.toNat z47).f0
def bT (l : List S47) (i : Int) : Int := (l.getD i.toNat z47).f1
def cv (l : List S47) (t i : Int) : Bool := decide (bF l i ≤ t ∧ t < bT l i)
def Bks (l : List S47) : Prop := ∀ i : Int, 0 ≤ i → i < l.length → 0 ≤ bF l i ∧ bF l i < bT l i ∧ bT l i ≤ 60
structure Ord (l : List S47) (ord : List Int) : Prop where
  nd : ord.Nodup
  mem : ∀ i, i ∈ ord ↔ 0 ≤ i ∧ i < l.length
  asc : ord.Pairwise (fun i j => bF l i ≤ bF l j)
structure Greedy (l : List S47) (S free out : List Int) : Prop where
  nd : S.Nodup
  rng : ∀ i ∈ S, 0 ≤ i ∧ i < l.length
  len : out.length = l.length
  room : ∀ i ∈ S, 0 ≤ out.getD i.toNat 0 ∧ out.getD i.toNat 0 < free.length
  upto : ∀ i ∈ S, bT l i ≤ free.getD (out.getD i.toNat 0).toNat 0
  sep : ∀ i ∈ S, ∀ j ∈ S, i ≠ j → out.getD i.toNat 0 = out.getD j.toNat 0 → bT l i ≤ bF l j ∨ bT l j ≤ bF l i
  last : ∀ k, k < free.length → ∃ i ∈ S, out.getD i.toNat 0 = (k : Int) ∧ bT l i = free.getD k 0
  deep : free.length = 0 ∨ ∃ t, 0 ≤ t ∧ t < 60 ∧ free.length ≤ (S.filter (cv l t)).length
theorem greedy_nil (l : List S47) : Greedy l [] [] (List.replicate l.length 0) :=
  ⟨List.nodup_nil, by simp, by simp, by simp, by simp, by simp, by simp, .inl rfl⟩
theorem idxF_cases {α : Type} (p : α → Bool) (xs : List α) : (idxF p xs = -1 ∧ ∀ k (h : k < xs.length), p xs[k] = false) ∨ (∃ k, ∃ h : k < xs.length, idxF p xs = (k : Int) ∧ p xs[k] = true ∧ ∀ j (hj : j < k), p (xs[j]'(by omega)) = false) := by
  unfold idxF
  cases hf : xs.findIdx? p with
  | none =>
    left
    rw [List.findIdx?_eq_none_iff] at hf
    exact ⟨rfl, fun k h => by simpa using hf xs[k] (List.getElem_mem h)⟩
  | some k =>
    right
    rw [List.findIdx?_eq_some_iff_getElem] at hf
    obtain ⟨h, h1, h2⟩ := hf
    exact ⟨k, h, rfl, h1, fun j hj => by simpa using h2 j hj⟩
theorem getD_set_self {xs : List Int} {k : Nat} (h : k < xs.length) (x d : Int) : (xs.set k x).getD k d = x := by simp [List.getD_eq_getElem?_getD, h]
theorem getD_set_ne' {xs : List Int} {k j : Nat} (h : k ≠ j) (x d : Int) : (xs.set k x).getD j d = xs.getD j d := by simp [List.getD_eq_getElem?_getD, h]
theorem greedy_step {l : List S47} {S free out : List Int} {i : Int} (h : Greedy l S free out) (hB : Bks l) (hi : i ∉ S) (h0 : 0 ≤ i) (h1 : i < l.length) (hs : ∀ j ∈ S, bF l j ≤ bF l i) :
    Greedy l (S ++ [i]) (stepA l (free, out) i).1 (stepA l (free, out) i).2 := by
  have hb := hB i h0 h1
  have hil : i.toNat < out.length := by rw [h.len]; omega
  have nd' : (S ++ [i]).Nodup := by
    rw [List.nodup_append]
    exact ⟨h.nd, by simp, fun a ha b hb e => hi (by rw [List.mem_singleton] at hb; rw [← hb, ← e]; exact ha)⟩
  have rng' : ∀ j ∈ S ++ [i], 0 ≤ j ∧ j < l.length := fun j hj => by
    rcases List.mem_append.1 hj with hj | hj
    · exact h.rng j hj
    · rw [List.mem_singleton.1 hj]; exact ⟨h0, h1⟩
  have old : ∀ (v : Int) (j : Int), j ∈ S → (out.set i.toNat v).getD j.toNat 0 = out.getD j.toNat 0 := fun v j hj => by
    have hj0 := h.rng j hj
    refine getD_set_ne' (fun e => hi ?_) v 0
    rw [show i = j by omega]
    exact hj
  unfold stepA
  simp only
  rcases idxF_cases (fun t => decide (t ≤ (l.getD i.toNat z47).f0)) free with ⟨he, hno⟩ | ⟨k, hk, he, hyes, hlow⟩
  · rw [he, if_pos (by omega)]
    have hno' : ∀ k, k < free.length → bF l i < free.getD k 0 := fun k hk => by
      have := hno k hk
      rw [decide_eq_false_iff_not] at this
      rw [List.getD_eq_getElem?_getD, List.getElem?_eq_getElem hk]
      show (l.getD i.toNat z47).f0 < free[k]
      omega
    have fo : ∀ k, k < free.length → (free ++ [(l.getD i.toNat z47).f1]).getD k 0 = free.getD k 0 := fun k hk => by
      rw [List.getD_eq_getElem?_getD, List.getElem?_append_left hk, List.getD_eq_getElem?_getD]
    have fn : (free ++ [(l.getD i.toNat z47).f1]).getD free.length 0 = bT l i := by
      rw [List.getD_eq_getElem?_getD, List.getElem?_append_right (Nat.le_refl _)]; simp [bT]
    refine ⟨nd', rng', by simp [h.len], ?_, ?_, ?_, ?_, .inr ⟨bF l i, hb.1, by omega, ?_⟩⟩
    · intro j hj
      simp only [List.length_append, List.length_singleton]
      rcases List.mem_append.1 hj with hj | hj
      · rw [old _ j hj]; have := h.room j hj; omega
      · rw [List.mem_singleton.1 hj, getD_set_self hil]; omega
    · intro j hj
      rcases List.mem_append.1 hj with hj | hj
      · rw [old _ j hj]
        have hr := h.room j hj
        rw [fo _ (by omega)]
        exact h.upto j hj
      · rw [List.mem_singleton.1 hj, getD_set_self hil, Int.toNat_natCast, fn]
        exact Int.le_refl _
    · intro j hj q hq hne heq
      rcases List.mem_append.1 hj with hj | hj <;> rcases List.mem_append.1 hq with hq | hq
      · rw [old _ j hj, old _ q hq] at heq; exact h.sep j hj q hq hne heq
      · rw [old _ j hj, List.mem_singleton.1 hq, getD_set_self hil] at heq
        have := h.room j hj; omega
      · rw [old _ q hq, List.mem_singleton.1 hj, getD_set_self hil] at heq
        have := h.room q hq; omega
      · exact absurd ((List.mem_singleton.1 hj).trans (List.mem_singleton.1 hq).symm) hne
    · intro k hk
      simp only [List.length_append, List.length_singleton] at hk
      by_cases hkf : k < free.length
      · obtain ⟨j, hj, e1, e2⟩ := h.last k hkf
        exact ⟨j, List.mem_append_left _ hj, by rw [old _ j hj]; exact e1, by rw [fo k hkf]; exact e2⟩
      · obtain rfl : k = free.length := by omega
        exact ⟨i, List.mem_append_right _ (List.mem_singleton.2 rfl), getD_set_self hil _ _, fn.symm⟩
    · have hci : cv l (bF l i) i = true := by unfold cv; rw [decide_eq_true_eq]; omega
      rw [List.filter_append, List.filter_cons, if_pos hci, List.filter_nil, List.length_append, List.length_append, List.length_singleton, List.length_singleton]
      refine Nat.add_le_add_right ?_ 1
      have wit : ∀ k : Nat, ∃ j, k < free.length → j ∈ S ∧ out.getD j.toNat 0 = (k : Int) ∧ bT l j = free.getD k 0 := fun k => by
        by_cases hk : k < free.length
        · obtain ⟨j, hj⟩ := h.last k hk; exact ⟨j, fun _ => hj⟩
        · exact ⟨0, fun h => absurd h hk⟩
      let g : Nat → Int := fun k => Classical.choose (wit k)
      have hg : ∀ k, k < free.length → g k ∈ S ∧ out.getD (g k).toNat 0 = (k : Int) ∧ bT l (g k) = free.getD k 0 := fun k hk => Classical.choose_spec (wit k) hk
      have hle := inj_le g (List.range free.length) (S.filter (cv l (bF l i))) ?_ ?_
      · rwa [List.length_range] at hle
      · rw [List.Nodup, List.pairwise_map]
        refine List.Pairwise.imp_of_mem ?_ (List.nodup_range (n := free.length))
        intro a b ha hb hab e
        have h1 := (hg a (List.mem_range.1 ha)).2.1
        have h2 := (hg b (List.mem_range.1 hb)).2.1
        rw [e, h2] at h1
        omega
      · intro k hk
        have hk := List.mem_range.1 hk
        obtain ⟨hj, _, e2⟩ := hg k hk
        refine List.mem_filter.2 ⟨hj, ?_⟩
        unfold cv
        rw [decide_eq_true_eq, e2]
        exact ⟨hs _ hj, hno' k hk⟩
  · rw [he, if_neg (by omega), Int.toNat_natCast]
    have hle : free.getD k 0 ≤ bF l i := by
      rw [List.getD_eq_getElem?_getD, List.getElem?_eq_getElem hk]
      exact of_decide_eq_true hyes
    refine ⟨nd', rng', by simp [h.len], ?_, ?_, ?_, ?_, ?_⟩
    · intro j hj
      rw [List.length_set]
      rcases List.mem_append.1 hj with hj | hj
      · rw [old _ j hj]; exact h.room j hj
      · rw [List.mem_singleton.1 hj, getD_set_self hil]; omega
    · intro j hj
      rcases List.mem_append.1 hj with hj | hj
      · rw [old _ j hj]
        have hr := h.room j hj
        have hu := h.upto j hj
        by_cases e : k = (out.getD j.toNat 0).toNat
        · rw [← e, getD_set_self hk]
          rw [← e] at hu
          show bT l j ≤ bT l i
          omega
        · rw [getD_set_ne' e]; exact hu
      · rw [List.mem_singleton.1 hj, getD_set_self hil, Int.toNat_natCast, getD_set_self hk]
        exact Int.le_refl _
    · intro j hj q hq hne heq
      have key : ∀ j ∈ S, out.getD j.toNat 0 = (k : Int) → bT l j ≤ bF l i := fun j hj e => by
        have hu := h.upto j hj
        rw [e, Int.toNat_natCast] at hu
        omega
      rcases List.mem_append.1 hj with hj | hj <;> rcases List.mem_append.1 hq with hq | hq
      · rw [old _ j hj, old _ q hq] at heq; exact h.sep j hj q hq hne heq
      · rw [old _ j hj, List.mem_singleton.1 hq, getD_set_self hil] at heq
        rw [List.mem_singleton.1 hq]
        exact .inl (key j hj heq)
      · rw [old _ q hq, List.mem_singleton.1 hj, getD_set_self hil] at heq
        rw [List.mem_singleton.1 hj]
        exact .inr (key q hq heq.symm)
      · exact absurd ((List.mem_singleton.1 hj).trans (List.mem_singleton.1 hq).symm) hne
    · intro k' hk'
      rw [List.length_set] at hk'
      by_cases e : k = k'
      · subst e
        exact ⟨i, List.mem_append_right _ (List.mem_singleton.2 rfl), getD_set_self hil _ _, (getD_set_self hk _ _).symm⟩
      · obtain ⟨j, hj, e1, e2⟩ := h.last k' hk'
        exact ⟨j, List.mem_append_left _ hj, by rw [old _ j hj]; exact e1, by rw [getD_set_ne' e]; exact e2⟩
    · rw [List.length_set]
      rcases h.deep with hd | ⟨t, t0, t1, t2⟩
      · omega
      · refine .inr ⟨t, t0, t1, Nat.le_trans t2 ?_⟩
        rw [List.filter_append, List.length_append]
        omega
theorem greedy_fold {l : List S47} (hB : Bks l) : ∀ (rest S free out : List Int), Greedy l S free out → (S ++ rest).Nodup → (∀ i ∈ rest, 0 ≤ i ∧ i < l.length) → (S ++ rest).Pairwise (fun i j => bF l i ≤ bF l j) →
    Greedy l (S ++ rest) (rest.foldl (stepA l) (free, out)).1 (rest.foldl (stepA l) (free, out)).2
  | [], S, free, out, h, _, _, _ => by simpa using h
  | i :: rest, S, free, out, h, hn, hr, hp => by
    have hi := hr i (List.mem_cons_self)
    have hn' := hn
    rw [List.nodup_append] at hn'
    have hp' := hp
    rw [List.pairwise_append] at hp'
    have hst := greedy_step h hB (fun hm => hn'.2.2 i hm i (List.mem_cons_self) rfl) hi.1 hi.2 (fun j hj => hp'.2.2 j hj i (List.mem_cons_self))
    have e : S ++ i :: rest = (S ++ [i]) ++ rest := by simp
    rw [e] at hn hp ⊢
    rw [List.foldl_cons]
    exact greedy_fold hB rest (S ++ [i]) _ _ hst hn (fun j hj => hr j (List.mem_cons_of_mem _ hj)) hp
theorem greedy_all {l : List S47} {ord : List Int} (hB : Bks l) (ho : Ord l ord) : Greedy l ord (assignF l ord).1 (assignF l ord).2 := by
  have h := greedy_fold hB ord [] [] (List.replicate l.length 0) (greedy_nil l) (by simpa using ho.nd) (fun i hi => (ho.mem i).1 hi) (by simpa using ho.asc)
  simpa [assignF] using h
theorem greedy_le {l : List S47} {S free out : List Int} (h : Greedy l S free out) (t : Int) : (S.filter (cv l t)).length ≤ free.length := by
  have hle := inj_le (fun i : Int => out.getD i.toNat 0) (S.filter (cv l t)) ((List.range free.length).map (fun k : Nat => (k : Int))) ?_ ?_
  · simpa using hle
  · rw [List.Nodup, List.pairwise_map]
    refine List.Pairwise.imp_of_mem ?_ (List.Pairwise.filter _ h.nd)
    intro a b ha hb hab e
    obtain ⟨ha, ca⟩ := List.mem_filter.1 ha
    obtain ⟨hb, cb⟩ := List.mem_filter.1 hb
    unfold cv at ca cb
    rw [decide_eq_true_eq] at ca cb
    rcases h.sep a ha b hb hab e with h1 | h1 <;> omega
  · intro i hi
    have hr := h.room i (List.mem_filter.1 hi).1
    exact List.mem_map.2 ⟨(out.getD i.toNat 0).toNat, List.mem_range.2 (by omega), by omega⟩
end Go.Proofs.Ytpjobcnfjpbaeaa.M

namespace Go.Proofs.Ytpjobcnfjpbaeaa.M
open Go.RowKit Go.Proofs.YtpjobcnfjpbaeaaW.PrintWords Go.Proofs.YtpjobcnfjpbaeaaW.PrintLast Go.Proofs.YtpjobcnfjpbaeaaW.PrintMore
open Go.Proofs.Ytpjobcnfjpbaeaa.PA Go.Proofs.Ytpjobcnfjpbaeaa.A Go.Sort
theorem iota_map (l : List S47) : (iota l.length).map (fun i : Int => l.getD i.toNat z47) = l := by
  apply List.ext_getElem?
  intro k
  simp only [iota, List.map_map, List.getElem?_map]
  by_cases hk : k < l.length
  · simp [List.getElem?_range, hk]
  · simp [hk]
theorem iota_nodup (n : Nat) : (iota n).Nodup := by
  unfold iota
  rw [List.Nodup, List.pairwise_map]
  exact List.Pairwise.imp (fun h e => h (by omega)) (List.nodup_range (n := n))
theorem mem_iota {n : Nat} {i : Int} : i ∈ iota n ↔ 0 ≤ i ∧ i < n := by
  unfold iota
  rw [List.mem_map]
  constructor
  · rintro ⟨k, hk, rfl⟩; have := List.mem_range.1 hk; omega
  · intro h; exact ⟨i.toNat, List.mem_range.2 (by omega), by omega⟩
theorem filt_cnt (l : List S47) (j : Nat) : ∀ S : List Int, ((S.filter (cv l (j : Int))).length : Int) = cntI (S.map (fun i => l.getD i.toNat z47)) j
  | [] => rfl
  | i :: S => by
    have ih := filt_cnt l j S
    rw [List.map_cons]
    have e : cntI (l.getD i.toNat z47 :: S.map (fun i => l.getD i.toNat z47)) j = covI (l.getD i.toNat z47) j + cntI (S.map (fun i => l.getD i.toNat z47)) j := by simp [cntI]
    rw [e, ← ih, List.filter_cons]
    by_cases h : bF l i ≤ (j : Int) ∧ (j : Int) < bT l i
    · have hc : cv l (j : Int) i = true := by unfold cv; rw [decide_eq_true_eq]; exact h
      have hv : covI (l.getD i.toNat z47) j = 1 := by unfold covI; exact if_pos h
      rw [if_pos hc, hv, List.length_cons]; omega
    · have hc : ¬ cv l (j : Int) i = true := by unfold cv; rw [decide_eq_true_eq]; exact h
      have hv : covI (l.getD i.toNat z47) j = 0 := by unfold covI; exact if_neg h
      rw [if_neg hc, hv]; omega
theorem Ord.perm {l : List S47} {ord : List Int} (h : Ord l ord) : ord.Perm (iota l.length) :=
  (List.perm_ext_iff_of_nodup h.nd (iota_nodup _)).2 (fun i => by rw [h.mem, mem_iota])
theorem Ord.cnt {l : List S47} {ord : List Int} (h : Ord l ord) (j : Nat) : ((ord.filter (cv l (j : Int))).length : Int) = cntI l j := by
  rw [(h.perm.filter _).length_eq, filt_cnt, iota_map]
theorem cmpI_lt {x y : Int} : decide (cmpI x y < 0) = decide (x < y) := by
  unfold cmpI
  by_cases h : x < y
  · simp [h]
  · by_cases h2 : y < x <;> simp [h, h2]
theorem ltF (l : List S47) {m : Nat} (x y : Fin (m + 1)) : ltOf (cmpF l) x y = decide ((l.getD x.val z47).f0 < (l.getD y.val z47).f0) := by
  unfold ltOf cmpF
  exact cmpI_lt
theorem swo49 (l : List S47) (m : Nat) : SWO (ltOf (cmpF l (m := m))) := {
  irrefl := fun x => by rw [ltF]; simp
  trans := fun x y z => by rw [ltF, ltF, ltF, decide_eq_true_eq, decide_eq_true_eq, decide_eq_true_eq]; omega
  ntrans := fun x y z => by rw [ltF, ltF, ltF, decide_eq_false_iff_not, decide_eq_false_iff_not, decide_eq_false_iff_not]; omega }
theorem extract_all {α : Type} (d : Array α) : d.extract 0 d.size = d := by simp
theorem ord_F {l : List S47} (h0 : 0 < l.length) : Ord l (ordF l) := by
  obtain ⟨m, hm⟩ : ∃ m, l.length = m + 1 := ⟨l.length - 1, by omega⟩
  have hsz : (ordA m).size = m + 1 := by simp [ordA]
  obtain ⟨⟨hs, _, hp⟩, hsort⟩ := insertionSort_holds (lt := ltOf (cmpF l)) (swo49 l m) (ordA m) 0 (ordA m).size (Nat.zero_le _) (Nat.le_refl _)
  have e1 : (insertionSort (ltOf (cmpF l)) (ordA m) 0 (ordA m).size).extract 0 (ordA m).size = insertionSort (ltOf (cmpF l)) (ordA m) 0 (ordA m).size := by
    have h := extract_all (insertionSort (ltOf (cmpF l)) (ordA m) 0 (ordA m).size)
    rw [hs] at h
    exact h
  rw [e1, extract_all] at hp
  have hperm : (ordF l).Perm (iota l.length) := by
    rw [ordF_succ hm, hm]
    have h2 := hp.map (fun i : Fin (m + 1) => ((i.val : Nat) : Int))
    have h3 := ordA_ints m
    have h4 : (ordA m).toList.map (fun i : Fin (m + 1) => ((i.val : Nat) : Int)) = iota (m + 1) := by
      apply List.ext_getElem?
      intro k
      simp only [ordA, iota, List.getElem?_map, Array.getElem?_toList, Array.getElem?_ofFn]
      by_cases hk : k < m + 1
      · simp [hk]
      · simp [hk]
    rw [h4] at h2
    exact h2
  refine ⟨hperm.nodup_iff.2 (iota_nodup _), fun i => by rw [hperm.mem_iff, mem_iota], ?_⟩
  rw [ordF_succ hm, List.pairwise_map]
  rw [List.pairwise_iff_getElem]
  intro i j hi hj hij
  rw [Array.length_toList] at hi hj
  have hi : i < (insertionSort (ltOf (cmpF l)) (ordA m) 0 (ordA m).size).size := hi
  have hj : j < (insertionSort (ltOf (cmpF l)) (ordA m) 0 (ordA m).size).size := hj
  have h1 := hsort i j (Nat.zero_le _) hij (by omega)
  have ei : (insertionSort (ltOf (cmpF l)) (ordA m) 0 (ordA m).size)[i]! = (insertionSort (ltOf (cmpF l)) (ordA m) 0 (ordA m).size)[i] := getElem!_pos _ i hi
  have ej : (insertionSort (ltOf (cmpF l)) (ordA m) 0 (ordA m).size)[j]! = (insertionSort (ltOf (cmpF l)) (ordA m) 0 (ordA m).size)[j] := getElem!_pos _ j hj
  rw [ei, ej] at h1
  rw [ltF, decide_eq_false_iff_not] at h1
  simp only [bF, Array.getElem_toList, Int.toNat_natCast]
  show (l.getD (insertionSort (ltOf (cmpF l)) (ordA m) 0 (ordA m).size)[i].val z47).f0 ≤ (l.getD (insertionSort (ltOf (cmpF l)) (ordA m) 0 (ordA m).size)[j].val z47).f0
  omega
theorem busy_max (us : List Int) : ∀ q, (∀ j, j < q → us.getD j 0 ≤ (busyF us q).1) ∧ 0 ≤ (busyF us q).1 ∧ ((busyF us q).1 = 0 ∨ ∃ j, j < q ∧ us.getD j 0 = (busyF us q).1)
  | 0 => ⟨fun j h => by omega, Int.le_refl _, .inl rfl⟩
  | q + 1 => by
    obtain ⟨h1, h2, h3⟩ := busy_max us q
    unfold busyF
    by_cases h : (busyF us q).1 < us.getD q 0
    · rw [if_pos h]
      refine ⟨fun j hj => ?_, by simp only; omega, .inr ⟨q, by omega, rfl⟩⟩
      by_cases e : j = q
      · subst e; exact Int.le_refl _
      · have := h1 j (by omega); simp only; omega
    · rw [if_neg h]
      refine ⟨fun j hj => ?_, h2, ?_⟩
      · by_cases e : j = q
        · subst e; omega
        · exact h1 j (by omega)
      · rcases h3 with h3 | ⟨j, hj, e⟩
        · exact .inl h3
        · exact .inr ⟨j, by omega, e⟩
theorem rooms_busy {l : List S47} {ord : List Int} (hB : Bks l) (ho : Ord l ord) {us : List Int} (hu : us.length = 60) (hc : ∀ j, us.getD j 0 = cntI l j) : ((assignF l ord).1.length : Int) = (busyF us us.length).1 := by
  have hg := greedy_all hB ho
  obtain ⟨h1, h2, h3⟩ := busy_max us us.length
  have hle : (busyF us us.length).1 ≤ ((assignF l ord).1.length : Int) := by
    rcases h3 with h3 | ⟨j, hj, e⟩
    · omega
    · rw [← e, hc, ← ho.cnt j]
      have := greedy_le hg (j : Int)
      omega
  rcases hg.deep with hd | ⟨t, t0, t1, t2⟩
  · omega
  · have := h1 t.toNat (by omega)
    rw [hc, ← ho.cnt t.toNat, Int.toNat_of_nonneg t0] at this
    omega
end Go.Proofs.Ytpjobcnfjpbaeaa.M

namespace Go.Proofs.Ytpjobcnfjpbaeaa.N
open Go.RowKit Go.Proofs.YtpjobcnfjpbaeaaW.PrintWords Go.Proofs.YtpjobcnfjpbaeaaW.PrintLast Go.Proofs.YtpjobcnfjpbaeaaW.PrintMore
open Go.Proofs.Ytpjobcnfjpbaeaa.PA Go.Proofs.Ytpjobcnfjpbaeaa.M Go.Proofs.Ytpjobcnfjpbaeaa.A
theorem meets_f {x y : S47} (h : x.f1 ≤ y.f0 ∨ y.f1 ≤ x.f0) : turndownref08_meets.f x.f0 x.f1 x.f2 y.f0 y.f1 y.f2 = some false := by
  unfold turndownref08_meets.f
  by_cases c : x.f0 < y.f1
  · rw [if_pos c]; congr 1; rw [decide_eq_false_iff_not]; omega
  · rw [if_neg c]
theorem assigned_l1 {l : List S47} {out : List Int} (hl : l.length ≤ 1000) (ho : out.length = l.length) {i : Nat} (hi : i < l.length)
    (hs : ∀ k, k < i → out.getD k 0 = out.getD i 0 → (l.getD k z47).f1 ≤ (l.getD i z47).f0 ∨ (l.getD i z47).f1 ≤ (l.getD k z47).f0) {r : Bool} (h0 : Ev (fun k => turndownref08_Assigned.l0 k l out ((i + 1 : Nat) : Int)) r) :
    ∀ d q, q + d = i → Ev (fun k => turndownref08_Assigned.l1 k l out (i : Int) (q : Int)) r := by
  intro d
  induction d with
  | zero =>
    intro q hq
    refine Ev.step (fun k => ?_) h0
    rw [turndownref08_Assigned.l1, if_neg (by omega), wrap_succ hi (by omega)]
  | succ d ih =>
    intro q hq
    refine Ev.step (fun k => ?_) (ih (q + 1) (by omega))
    rw [turndownref08_Assigned.l1, if_pos (by omega), if_pos (by omega), if_pos (by omega), if_pos (by omega), if_pos (by omega), rdI, rdI, rdT47, rdT47]
    by_cases e : out.getD q 0 = out.getD i 0
    · rw [if_pos e, if_pos (by omega), if_pos (by omega), meets_f (hs q (by omega) e), Option.bind_some, if_neg (by simp), wrap_succ (show q < l.length by omega) (by omega)]
    · rw [if_neg e, wrap_succ (show q < l.length by omega) (by omega)]
theorem assigned_ev {l : List S47} {out : List Int} (hl : l.length ≤ 1000) (ho : out.length = l.length) (h0 : ∀ i, i < l.length → 0 ≤ out.getD i 0)
    (hs : ∀ i k, i < l.length → k < i → out.getD k 0 = out.getD i 0 → (l.getD k z47).f1 ≤ (l.getD i z47).f0 ∨ (l.getD i z47).f1 ≤ (l.getD k z47).f0) : Ev (fun k => turndownref08_Assigned.f k l out) true := by
  have key : ∀ d i, i + d = l.length → Ev (fun k => turndownref08_Assigned.l0 k l out (i : Int)) true := by
    intro d
    induction d with
    | zero =>
      intro i hi
      refine Ev.step (f := fun _ => some true) (fun k => ?_) (Ev.now _)
      rw [turndownref08_Assigned.l0, if_neg (by omega)]
    | succ d ih =>
      intro i hi
      have hlt : i < l.length := by omega
      refine Ev.step (fun k => ?_) (assigned_l1 hl ho hlt (hs i · hlt) (ih (i + 1) (by omega)) i 0 (by omega))
      rw [turndownref08_Assigned.l0, if_pos (by omega), if_pos (by omega), if_pos (by omega), rdI, if_neg (by have := h0 i hlt; omega)]
      rfl
  refine Ev.congr (fun k => ?_) (key l.length 0 (by omega))
  unfold turndownref08_Assigned.f
  rw [if_pos (by omega)]
  rfl
theorem sum_le {l : List S47} (hl : l.length ≤ 40) (hp : ∀ x ∈ l, 0 ≤ x.f2 ∧ x.f2 ≤ 1000000) : ∀ i, i ≤ l.length → 0 ≤ sumTo i (fun j => (l.getD j z47).f2) ∧ sumTo i (fun j => (l.getD j z47).f2) ≤ 1000000 * i
  | 0, _ => by simp [sumTo]
  | i + 1, h => by
    have ih := sum_le hl hp i (by omega)
    have hx := hp _ (mem_getD (show i < l.length by omega))
    simp only [sumTo]
    omega
theorem enough_l2 {b : List S47} {n s : Int} (h : Ev (fun k => turndownlaw08_revenue.f k b (List.replicate 60 n)) s) : ∀ d i, i + d = 60 → Ev (fun k => turndownlaw08_RoomsEnough.l2 k b n s (List.replicate i n) (i : Int)) true := by
  intro d
  induction d with
  | zero =>
    intro i hi
    obtain rfl : i = 60 := by omega
    have : Ev (fun k => (turndownlaw08_revenue.f k b (List.replicate 60 n)).bind fun t438 => (if t438 = s then ((turndownlaw08_awake.f).bind fun t439 => (some t439)) else (some false))) true := by
      refine h.bind ?_
      simp only [if_pos]
      exact Ev.now _
    refine Ev.step (fun k => ?_) this
    rw [turndownlaw08_RoomsEnough.l2, if_neg (by omega)]
  | succ d ih =>
    intro i hi
    refine Ev.step (fun k => ?_) (ih (i + 1) (by omega))
    have hl : (List.replicate i n).length ≤ 60 := by simp; omega
    rw [turndownlaw08_RoomsEnough.l2, if_pos (by omega), if_pos (by omega), wrap_succ (show i < 60 by omega) (by omega), ← List.replicate_succ']
theorem enough_l1 {b : List S47} {n : Int} (hl : b.length ≤ 40) (hp : ∀ x ∈ b, 0 ≤ x.f2 ∧ x.f2 ≤ 1000000)
    (h : Ev (fun k => turndownlaw08_RoomsEnough.l2 k b n (sumTo b.length (fun j => (b.getD j z47).f2)) [] 0) true) : ∀ d i, i + d = b.length → Ev (fun k => turndownlaw08_RoomsEnough.l1 k b n (sumTo i (fun j => (b.getD j z47).f2)) (i : Int)) true := by
  intro d
  induction d with
  | zero =>
    intro i hi
    obtain rfl : i = b.length := by omega
    refine Ev.step (fun k => ?_) h
    rw [turndownlaw08_RoomsEnough.l1, if_neg (by omega)]
  | succ d ih =>
    intro i hi
    refine Ev.step (fun k => ?_) (ih (i + 1) (by omega))
    have hs := sum_le hl hp (i + 1) (by omega)
    simp only [sumTo] at hs
    have hw : wrap64 (sumTo i (fun j => (b.getD j z47).f2) + (b.getD i z47).f2) = sumTo (i + 1) (fun j => (b.getD j z47).f2) := by simp only [sumTo]; unfold wrap64; omega
    rw [turndownlaw08_RoomsEnough.l1, if_pos (by omega), if_pos (by omega), rdT47, hw, wrap_succ (show i < b.length by omega) (by omega)]
theorem enough_l0 {b : List S47} {out : List Int} {n : Int} (hl : out.length ≤ 1000) (hr : ∀ i, i < out.length → out.getD i 0 < n)
    (h : 8 < n ∨ Ev (fun k => turndownlaw08_RoomsEnough.l1 k b n 0 0) true) : ∀ d i, i + d = out.length → Ev (fun k => turndownlaw08_RoomsEnough.l0 k b out n (i : Int)) true := by
  intro d
  induction d with
  | zero =>
    intro i hi
    by_cases hn : n > 8
    · refine Ev.step (f := fun _ => some true) (fun k => ?_) (Ev.now _)
      rw [turndownlaw08_RoomsEnough.l0, if_neg (by omega), if_pos hn]
      rfl
    · rcases h with h | h
      · exact absurd h hn
      · refine Ev.step (fun k => ?_) h
        rw [turndownlaw08_RoomsEnough.l0, if_neg (by omega), if_neg hn]
  | succ d ih =>
    intro i hi
    refine Ev.step (fun k => ?_) (ih (i + 1) (by omega))
    have := hr i (by omega)
    rw [turndownlaw08_RoomsEnough.l0, if_pos (by omega), if_pos (by omega), rdI, if_neg (by omega), wrap_succ (show i < out.length by omega) (by omega)]
theorem fit_all {l : List S47} {r : List Int} (hg : A.Good l r) (h : ∀ k, k < r.length → cntI l k ≤ r.getD k 0) : (inst l r).Fit (fun _ => 1) := by
  refine ⟨fun i _ => .inr rfl, fun k hk => Int.le_trans (Int.le_of_eq ?_) (h k hk)⟩
  have e := cnt_lsum (l := l) (iota l.length) k
  rw [iota_map] at e
  rw [e]
  have ha : Asc l.length (iota l.length) := ⟨by
    unfold iota
    rw [List.pairwise_map]
    exact List.Pairwise.imp (fun h => by omega) (List.pairwise_lt_range (n := l.length)), fun x hx => mem_iota.1 hx⟩
  rw [lsum_ind _ ha]
  refine sumTo_congr (fun i hi => ?_)
  have hi' : i < l.length := hi
  have : ind (iota l.length) i = 1 := by
    unfold ind
    rw [if_pos]
    exact mem_iota.2 ⟨by omega, by omega⟩
  rw [this, cov_inst hg hi']
theorem enough_pure (l : List S47) : ∃ k, turndownlaw08_RoomsEnough.f k l = some true := by
  refine Ev.rounds ?_
  obtain ⟨b, hb⟩ : ∃ b, b = (l.take 20).map (tame1 60) := ⟨_, rfl⟩
  have hbl : b.length ≤ 20 := by rw [hb, List.length_map, List.length_take]; omega
  have hbk : ∀ x ∈ b, 0 ≤ x.f0 ∧ x.f0 < x.f1 ∧ x.f1 ≤ 60 ∧ 0 ≤ x.f2 ∧ x.f2 ≤ 1000000 := fun x hx => by
    rw [hb] at hx
    obtain ⟨y, _, rfl⟩ := List.mem_map.1 hx
    exact tame1_ok (by omega) (by omega) y
  have ht : turndownlaw08_tame.f l 60 20 = some b := by unfold turndownlaw08_tame.f; rw [if_pos (by omega), hb]; rfl
  have hare : areB b = true := areB_iff.2 ⟨by omega, hbk⟩
  have hB : Bks b := fun i h0 h1 => by
    have := hbk _ (mem_getD (show i.toNat < b.length by omega))
    exact ⟨this.1, this.2.1, this.2.2.1⟩
  obtain ⟨us, hu, hc, hev⟩ := used_ev (xs := b) (n := 60) (by omega) (by omega) (fun x hx => by have := hbk x hx; omega)
  obtain ⟨n, out, hn, hass, hgr⟩ : ∃ (n : Nat) (out : List Int), (n : Int) = (busyF us us.length).1 ∧ rooms_Assign.f b = some (out, (n : Int), 0) ∧ ∃ S free, Greedy b S free out ∧ free.length = n ∧ (∀ i : Int, 0 ≤ i → i < b.length → i ∈ S) ∧ ∀ j, cntI b j ≤ (n : Int) := by
    by_cases h0 : b.length = 0
    · obtain rfl : b = [] := List.eq_nil_of_length_eq_zero h0
      refine ⟨0, [], ?_, rfl, [], [], greedy_nil [], rfl, fun i h1 h2 => by simp at h2; omega, fun j => by simp [cntI]⟩
      have h3 := (busy_max us us.length).2.2
      rcases h3 with h3 | ⟨j, _, e⟩
      · omega
      · rw [← e, hc]; simp [cntI]
    · have ho := ord_F (l := b) (by omega)
      refine ⟨(assignF b (ordF b)).1.length, (assignF b (ordF b)).2, rooms_busy hB ho hu hc, ?_, ordF b, _, greedy_all hB ho, rfl, fun i h1 h2 => (ho.mem i).2 ⟨h1, h2⟩, fun j => ?_⟩
      · unfold rooms_Assign.f
        rw [hare, if_pos rfl, if_pos hbl]
      · rw [← ho.cnt j]
        have := greedy_le (greedy_all hB ho) (j : Int)
        omega
  obtain ⟨S, free, hG, hfree, hS, hcnt⟩ := hgr
  have hol := hG.len
  have hroom : ∀ i, i < b.length → 0 ≤ out.getD i 0 ∧ out.getD i 0 < (n : Int) := fun i hi => by
    have := hG.room (i : Int) (hS i (by omega) (by omega))
    rw [Int.toNat_natCast, hfree] at this
    exact this
  have hasg : Ev (fun k => turndownref08_Assigned.f k b out) true := assigned_ev (by omega) hol (fun i hi => (hroom i hi).1) (fun i k hi hk e => by
    have := hG.sep (k : Int) (hS k (by omega) (by omega)) (i : Int) (hS i (by omega) (by omega)) (by omega) (by rw [Int.toNat_natCast, Int.toNat_natCast]; exact e)
    simpa [bT, bF] using this)
  have hbusy : Ev (fun k => rooms_Busiest.f k b) ((n : Int), (busyF us us.length).2, 0) := by
    unfold rooms_Busiest.f busiestF
    rw [hare]
    simp only [if_true]
    refine hev.bind ?_
    rw [← hn]
    exact Ev.now _
  have hl0 : Ev (fun k => turndownlaw08_RoomsEnough.l0 k b out (n : Int) 0) true := by
    refine enough_l0 (by omega) (fun i hi => (hroom i (by omega)).2) ?_ out.length 0 (by omega)
    by_cases h8 : 8 < (n : Int)
    · exact .inl h8
    · right
      have hg : A.Good b (List.replicate 60 (n : Int)) := ⟨by omega, by simp, fun x hx => by rw [(List.mem_replicate.1 hx).2]; omega, fun x hx => by have := hbk x hx; simp; omega, fun x hx => by have := hbk x hx; omega⟩
      obtain ⟨v, ev, ov, _⟩ := revenue_ev hg
      have hfit := fit_all hg (fun k hk => by
        have hk' : k < 60 := by simpa using hk
        rw [List.getD_eq_getElem?_getD, List.getElem?_replicate, if_pos hk']
        exact hcnt k)
      have hrev : (inst b (List.replicate 60 (n : Int))).Rev (fun _ => 1) = sumTo b.length (fun j => (b.getD j z47).f2) := by
        unfold Inst.Rev
        exact sumTo_congr (fun i _ => by rw [Int.one_mul]; rfl)
      have h1 := ov.max (inst_ok hg) hfit
      obtain ⟨Y, _, hY, _, hs, _⟩ := ov
      have h2 : (inst b (List.replicate 60 (n : Int))).Rev Y ≤ (inst b (List.replicate 60 (n : Int))).Rev (fun _ => 1) := by
        unfold Inst.Rev
        refine sumTo_le (fun i hi => ?_)
        have hp := ((inst_ok hg).price i hi).1
        show Y i * _ ≤ 1 * _
        rcases hY.one i hi with e | e <;> rw [e] <;> omega
      obtain rfl : v = sumTo b.length (fun j => (b.getD j z47).f2) := by omega
      have L2 := enough_l2 ev 60 0 (by omega)
      exact enough_l1 (by omega) hg.price L2 b.length 0 (by omega)
  unfold turndownlaw08_RoomsEnough.f
  simp only [ht, Option.bind_some, hass]
  refine hbusy.bind ?_
  simp only [if_true]
  refine hasg.bind ?_
  refine Ev.step (fun k => ?_) hl0
  rw [turndownlaw08_RoomsEnough.j0]
  rfl
end Go.Proofs.Ytpjobcnfjpbaeaa.N

namespace Go.Proofs.Ytpjobcnfjpbaeaa.A
open Go.RowKit Go.Proofs.YtpjobcnfjpbaeaaW.PrintWords Go.Proofs.YtpjobcnfjpbaeaaW.PrintLast Go.Proofs.YtpjobcnfjpbaeaaW.PrintMore
open Go.Proofs.Ytpjobcnfjpbaeaa.PA Go.Proofs.Ytpjobcnfjpbaeaa.M
theorem enough_walk (A : Option Addr) (c : Nat) (l : List S47) (w : World) (hr : Kd.C k47 w A l.length l) (hc : l.length ≤ c)
    (_hw : ∀ x ∈ l, (Lit.int .i64 x.f0).wf = true ∧ (Lit.int .i64 x.f1).wf = true ∧ (Lit.int .i64 x.f2).wf = true) :
    Calls Try.prog 10 #[.slice A l.length c] w fun e w' => e = .returned (.bool true) ∧ Below w.heap.size w w' := by
  obtain ⟨k, hk⟩ := N.enough_pure l
  exact turndownlaw08_RoomsEnough.calls k A c l true w hr hc hk
end Go.Proofs.Ytpjobcnfjpbaeaa.A

namespace Go.Proofs.Ytpjobcnfjpbaeaa.E
open Go.ChangeShapes Go.WideShapes Go.ChangeAt Go.RowKit Go.Deep
open Go.Proofs.YtpjobcnfjpbaeaaW.PrintWords Go.Proofs.YtpjobcnfjpbaeaaW.PrintLast Go.Proofs.YtpjobcnfjpbaeaaW.PrintMore
open Go.Proofs.Ytpjobcnfjpbaeaa.PA
variable {H : Type} {enc : TypeId × Value → H}
theorem open_int3 {W : World} {fuel : Nat} {cs : List Value} {x : DataW H × List MemPlace} (h : DataW.trod enc Try.prog W 0 (fun _ => true) true fuel 3 cs = some x) : ∃ n, cs = [.int .i64 n] ∧ x = (.lit (.int .i64 n), []) ∧ (Lit.int .i64 n).wf = true :=
  DataW.trod_int Try.underlying3 h
theorem len3 : ∀ {l : List Value}, l.length = 3 → ∃ a b c, l = [a, b, c]
  | [a, b, c], _ => ⟨a, b, c, rfl⟩
  | [], h => by simp at h
  | [_], h => by simp at h
  | [_, _], h => by simp at h
  | _ :: _ :: _ :: _ :: _, h => by simp at h
instance : Inhabited S47 := ⟨z47⟩
theorem open_bks {W : World} {a : Option Addr} {len cap : Nat} {d : DataW H} {p : List MemPlace} (h : DataW.Trod enc Try.prog W 0 (fun _ => true) true 22 (.slice a len cap) d p) :
    ∃ xs : List S47, xs.length = len ∧ len ≤ cap ∧ Kd.C k47 W a len xs ∧ ∀ x ∈ xs, (Lit.int .i64 x.f0).wf = true ∧ (Lit.int .i64 x.f1).wf = true ∧ (Lit.int .i64 x.f2).wf = true := by
  obtain ⟨fuel, hf⟩ := h
  have e3 : Try.prog.cellsOf 47 = 3 := by kernel_rfl
  have e1 : Try.prog.cellsOf 3 = 1 := by kernel_rfl
  rcases open_slice Try.underlying22 hf with ⟨hcs, _⟩ | ⟨x, l, c, m, n, D, Pl, hcs, _, hl, hm, hmm, _, hel⟩
  · simp [Value.cells] at hcs
    obtain ⟨rfl, rfl, rfl⟩ := hcs
    exact ⟨[], rfl, Nat.le_refl _, ⟨rfl, by omega, fun h => by omega⟩, fun x hx => by simp at hx⟩
  · simp [Value.cells] at hcs
    obtain ⟨rfl, rfl, rfl⟩ := hcs
    simp only [if_true] at hmm
    subst hmm
    have key : ∀ i, i < m → ∃ s : S47, (W.cell? (x.add (i * 3)) = some (.int .i64 s.f0) ∧ W.cell? (x.add (i * 3 + 1)) = some (.int .i64 s.f1) ∧ W.cell? (x.add (i * 3 + 2)) = some (.int .i64 s.f2)) ∧ ((Lit.int .i64 s.f0).wf = true ∧ (Lit.int .i64 s.f1).wf = true ∧ (Lit.int .i64 s.f2).wf = true) := by
      intro i hi
      obtain ⟨cs', h1, h2⟩ := hel i hi
      rw [e3] at h1
      obtain ⟨_, hlen, hcell⟩ := World.cells?_some h1
      obtain ⟨y0, y1, y2, q, _, _, g0, g1, g2⟩ := trod_struct3 Try.underlying47 h2
      obtain ⟨c0, c1, c2, rfl⟩ := len3 hlen
      obtain ⟨n0, q0, _, w0⟩ := open_int3 g0
      obtain ⟨n1, q1, _, w1⟩ := open_int3 g1
      obtain ⟨n2, q2, _, w2⟩ := open_int3 g2
      simp [e1] at q0 q1 q2
      subst q0 q1 q2
      refine ⟨⟨n0, n1, n2⟩, ⟨?_, ?_, ?_⟩, w0, w1, w2⟩
      · have := hcell 0 (by omega); rw [Go.Deep.add_add] at this; simpa using this
      · have := hcell 1 (by omega); rw [Go.Deep.add_add] at this; simpa using this
      · have := hcell 2 (by omega); rw [Go.Deep.add_add] at this; simpa using this
    obtain ⟨f, hfs⟩ := choose_lt (α := S47) key
    refine ⟨(List.range len).map f, by simp, hl, ⟨by simp, by unfold maxLen at hm; omega, fun _ => ⟨x, rfl, fun j p hp => ?_⟩⟩, fun s hs => ?_⟩
    · have hj : j < len := by have := (List.getElem?_eq_some_iff.1 hp).1; simpa using this
      simp [hj] at hp
      subst hp
      obtain ⟨⟨a0, a1, a2⟩, _⟩ := hfs j (by omega)
      refine ⟨[.int .i64 (f j).f0, .int .i64 (f j).f1, .int .i64 (f j).f2], rfl, k47_mk W (f j), fun i u hu => ?_⟩
      match i, hu with
      | 0, hu => simp at hu; subst hu; exact a0
      | 1, hu => simp at hu; subst hu; exact a1
      | 2, hu => simp at hu; subst hu; exact a2
      | i + 3, hu => simp at hu
    · simp only [List.mem_map, List.mem_range] at hs
      obtain ⟨i, hi, rfl⟩ := hs
      exact (hfs i (by omega)).2
end Go.Proofs.Ytpjobcnfjpbaeaa.E

namespace Go.Proofs.Ytpjobcnfjpbaeaa.E
open Go.ChangeShapes Go.WideShapes Go.ChangeAt Go.RowKit Go.Deep
open Go.Proofs.YtpjobcnfjpbaeaaW.PrintWords Go.Proofs.YtpjobcnfjpbaeaaW.PrintLast Go.Proofs.YtpjobcnfjpbaeaaW.PrintMore
open Go.Proofs.Ytpjobcnfjpbaeaa.PA
variable {H : Type} {enc : TypeId × Value → H}
theorem own : ownKnob Try.prog.godebug = none := by kernel_rfl
theorem laidOut : laidOutB Try.prog = true := by kernel_rfl
end Go.Proofs.Ytpjobcnfjpbaeaa.E

namespace Go.Proofs.Ytpjobcnfjpbaeaa.roomsEnough
open Go.ChangeShapes Go.WideShapes Go.ChangeAt Go.RowKit
open Go.Proofs.Ytpjobcnfjpbaeaa.E
set_option maxRecDepth 100000 in
theorem lifted (os : Os) (started : os.Started) (H : Type) (enc : TypeId × Value → H) :
    ReturnsInHanded {} Try.checked os 10 .any (Rows.roomsEnoughSpec.pre6 enc Try.prog Try.f10 Rows.roomsEnoughRow.domain false) (Rows.roomsEnoughSpec.post enc Try.prog Try.f10 false true false false) := by
  refine returnsInHanded_of_change_sized (C := Try.checked) own started (by kernel_rfl) Try.func10
    (ChangeSpec.witness6 (enc := enc) (C := Try.checked) false ⟨#[], #[.slice none 0 0], []⟩ 8 (by kernel_rfl) (by kernel_rfl) (by kernel_rfl) (by kernel_rfl)) ?_
  intro W base args ds gs before hval0 hW hcnd hsz0 _
  have hval : ∀ (j : Nat) t v, Try.f10.params[j]? = some t → args[j]? = some v → Value.okWide Try.prog W .any base t v := hval0
  have hW' := hW
  obtain ⟨p, q, hA0, hV, rfl, hfz, hnd⟩ := hW
  have hA : DataW.TrodAll enc Try.prog W 0 (fun _ => true) true Try.f10.params.toList args.toList ds p := hA0
  rw [Try.params10] at hA hval
  obtain ⟨v0, vs0, d0, ds0, p0, q0, hargs, rfl, rfl, h0, r0⟩ := trodAll_cons hA
  obtain ⟨rfl, rfl, rfl⟩ := trodAll_nil r0
  obtain rfl : args = #[v0] := by cases args; simp_all
  obtain ⟨rfl, rfl⟩ := trodVars_none hV
  have k0 := h0
  have lt0 : ∀ x ∈ p0, x.block < W.heap.size := by obtain ⟨m, hm⟩ := k0; exact DataW.trod_lt m _ _ _ hm
  obtain ⟨a0, len0, cap0, rfl⟩ := okWide_slice Try.underlying22 (hval 0 22 v0 rfl rfl)
  obtain ⟨x0, rfl, y0, z0, w0⟩ := open_bks h0
  clear hA0 hval0 hsz0
  refine (Go.Proofs.Ytpjobcnfjpbaeaa.A.enough_walk a0 cap0 x0 W z0 y0 w0).mono fun e W' ⟨he, bel⟩ => ?_
  subst he
  exact ⟨_, rfl, _, _, _, [], _, [], hW', trodAll_mk1 (shut_bool Try.underlying4 _), (trodAll_cons_mk (Below.trod laidOut (by kernel_rfl) (of_decide_eq_true (by kernel_rfl)) k0 bel lt0) trodAll_mk0), rfl, bel.frame _, fun h => by cases h⟩
theorem over : Rows.roomsEnoughRow.holds Try.pinned (OpenSpec.ofChange Rows.roomsEnoughSpec) :=
  OpenClaim.holds_of_wide 10 Try.f10 rfl rfl rfl rfl rfl rfl rfl ⟨rfl, rfl, rfl, rfl, rfl⟩ rfl rfl rfl rfl rfl (by kernel_rfl) Try.func10 (by kernel_rfl)
    (of_decide_eq_true (by kernel_rfl)) (by unfold Func.isWrapper; first | (rw [if_pos (by decide +kernel)]; kernel_rfl) | (rw [if_neg (by decide +kernel)]; exact ⟨rfl, rfl⟩))
    (fun os started H enc _ => lifted os started H enc)
theorem proved : Rows.RoomsEnoughSaid := over
end Go.Proofs.Ytpjobcnfjpbaeaa.roomsEnough
namespace Go.Proofs.Ytpjobcnfjpbaeaa
theorem roomsEnough_holds : Rows.RoomsEnoughSaid := roomsEnough.proved
end Go.Proofs.Ytpjobcnfjpbaeaa
