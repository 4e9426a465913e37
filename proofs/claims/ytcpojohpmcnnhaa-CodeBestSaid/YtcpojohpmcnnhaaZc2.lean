/- For all lists of weights and all limits the statement CodeBest holds: Go's function returns true and changes nothing that existed. -/
import Derived.Test.YtcpojohpmcnnhaaRows
import Derived.WalkKit
import Derived.ProofKit
import Derived.OpenShut
import Derived.ShutString
import Derived.ChangeOld
import Derived.Below
import Derived.SizedLaws
import Derived.Test.YtcpojohpmcnnhaaZc1
set_option linter.unusedSimpArgs false
set_option linter.unusedVariables false

set_option linter.unusedVariables false
set_option linter.unusedSimpArgs false
namespace Go.Proofs.Ytcpojohpmcnnhaa.L
open Go.RowKit Go.Proofs.YtcpojohpmcnnhaaW.PrintWords Go.Proofs.YtcpojohpmcnnhaaW.PrintLast Go.Proofs.YtcpojohpmcnnhaaW.PrintMore
open Go.Proofs.Ytcpojohpmcnnhaa.PA Go.Proofs.Ytcpojohpmcnnhaa.A Go.Proofs.Ytcpojohpmcnnhaa.K
def insD (x : Int) : List Int → List Int
  | [] => [x]
  | y :: l => if y ≥ x then y :: insD x l else x :: y :: l
def descL (l : List Int) : List Int := l.foldl (fun out x => insD x out) []
theorem insD_perm (x : Int) : ∀ l, (insD x l).Perm (x :: l)
  | [] => .refl _
  | y :: l => by
    unfold insD
    split
    · exact ((insD_perm x l).cons y).trans (List.Perm.swap x y l)
    · exact .refl _
theorem insD_desc (x : Int) : ∀ l, Desc l → Desc (insD x l)
  | [], _ => List.pairwise_singleton _ _
  | y :: l, h => by
    have h1 := List.pairwise_cons.1 h
    unfold insD
    split
    · rename_i hc
      refine List.pairwise_cons.2 ⟨fun z hz => ?_, insD_desc x l h1.2⟩
      rcases List.mem_cons.1 ((insD_perm x l).subset hz) with rfl | hz
      · exact hc
      · exact h1.1 z hz
    · rename_i hc
      refine List.pairwise_cons.2 ⟨fun z hz => ?_, h⟩
      rcases List.mem_cons.1 hz with rfl | hz
      · omega
      · have := h1.1 z hz; omega
theorem fold_insD : ∀ (l out : List Int), Desc out → Desc (l.foldl (fun out x => insD x out) out) ∧ (l.foldl (fun out x => insD x out) out).Perm (out ++ l)
  | [], out, h => ⟨h, by simp⟩
  | x :: l, out, h => by
    obtain ⟨h1, h2⟩ := fold_insD l (insD x out) (insD_desc x out h)
    refine ⟨h1, h2.trans ?_⟩
    refine ((insD_perm x out).append_right l).trans ?_
    exact List.perm_middle.symm
theorem descL_desc (l : List Int) : Desc (descL l) := (fold_insD l [] List.Pairwise.nil).1
theorem descL_perm (l : List Int) : (descL l).Perm l := by
  have h := (fold_insD l [] List.Pairwise.nil).2
  rw [List.nil_append] at h
  exact h
theorem insD_len (x : Int) (l : List Int) : (insD x l).length = l.length + 1 := by rw [(insD_perm x l).length_eq]; rfl
theorem desc_l1 {l : List Int} (hl : l.length ≤ 1000000) {out : List Int} (ho : out.length ≤ 1000000) {i : Nat} (hi : i < l.length) {r : List Int} :
    ∀ e q, q + e = out.length → Ev (fun k => turndownref06_descending.l0 k l (out.take q ++ insD (l.getD i 0) (out.drop q)) ((i + 1 : Nat) : Int)) r → Ev (fun k => turndownref06_descending.l1 k l out (i : Int) (q : Int)) r := by
  intro e
  induction e with
  | zero =>
    intro q hq h
    refine Ev.step (fun k => ?_) h
    have hq' : q = out.length := by omega
    rw [turndownref06_descending.l1, if_neg (by omega), if_pos (by omega), if_pos (by omega)]
    simp only [Option.bind_some, Int.toNat_natCast, List.nil_append, List.length_nil, Nat.zero_add, List.length_append, List.length_cons]
    rw [if_pos (by rw [List.length_take]; omega), if_pos (by omega), if_pos (by omega), if_pos (by rw [List.length_take]; omega), if_pos (by rw [List.length_take, List.length_drop]; omega), rd_nat, w1 (by omega)]
    have e1 : out.drop q = [] := List.drop_of_length_le (by omega)
    rw [e1]
    simp [insD]
  | succ e ih =>
    intro q hq h
    have hql : q < out.length := by omega
    have hd := drop_cons hql 0
    have ht : out.take (q + 1) = out.take q ++ [out.getD q 0] := by
      rw [List.take_succ_eq_append_getElem hql, List.getD_eq_getElem?_getD, List.getElem?_eq_getElem hql]; rfl
    by_cases hc : out.getD q 0 ≥ l.getD i 0
    · have h2 : Ev (fun k => turndownref06_descending.l0 k l (out.take (q + 1) ++ insD (l.getD i 0) (out.drop (q + 1))) ((i + 1 : Nat) : Int)) r := by
        have e1 : out.take q ++ insD (l.getD i 0) (out.drop q) = out.take (q + 1) ++ insD (l.getD i 0) (out.drop (q + 1)) := by
          rw [hd, ht, List.append_assoc]
          congr 1
          rw [insD, if_pos hc]; rfl
        rw [← e1]; exact h
      refine Ev.step (fun k => ?_) (ih (q + 1) (by omega) h2)
      rw [turndownref06_descending.l1, if_pos (by omega), if_pos (by omega), if_pos (by omega), if_pos (by omega), rd_nat, rd_nat, if_pos hc, w1 (by omega)]
    · refine Ev.step (fun k => ?_) h
      rw [turndownref06_descending.l1, if_pos (by omega), if_pos (by omega), if_pos (by omega), if_pos (by omega), rd_nat, rd_nat, if_neg hc, if_pos (by omega)]
      simp only [Option.bind_some, Int.toNat_natCast, List.nil_append, List.length_nil, Nat.zero_add, List.length_append, List.length_cons]
      rw [if_pos (by rw [List.length_take]; omega), if_pos (by rw [List.length_take]; omega), if_pos (by rw [List.length_take, List.length_drop]; omega), w1 (by omega)]
      rw [hd, insD, if_neg hc]
      simp
theorem desc_ev {l : List Int} (hl : l.length ≤ 1000000) : Ev (fun k => turndownref06_descending.f k l) (descL l) := by
  have key : ∀ e q out, q + e = l.length → out.length = q → (l.drop q).foldl (fun out x => insD x out) out = descL l → Ev (fun k => turndownref06_descending.l0 k l out (q : Int)) (descL l) := by
    intro e
    induction e with
    | zero =>
      intro q out hq ho hf
      refine Ev.step (fun k => ?_) (Ev.now _)
      rw [turndownref06_descending.l0, if_neg (by omega)]
      rw [List.drop_of_length_le (by omega)] at hf
      exact congrArg some hf
    | succ e ih =>
      intro q out hq ho hf
      have hql : q < l.length := by omega
      rw [drop_cons hql 0, List.foldl_cons] at hf
      have h1 := ih (q + 1) _ (by omega) (by rw [insD_len]; omega) hf
      refine Ev.step (fun k => ?_) (desc_l1 (out := out) hl (by omega) hql out.length 0 (by omega) (by rw [List.take_zero, List.drop_zero, List.nil_append]; exact h1))
      rw [turndownref06_descending.l0, if_pos (by omega)]; rfl
  exact key l.length 0 [] (by omega) rfl (by rw [List.drop_zero]; rfl)
def restL (w : List Int) : List Int := (List.range (w.length + 1)).map (fun j => (w.drop j).sum)
theorem restL_ok (w : List Int) : RestOk w w.length (restL w) := by
  intro i hi
  unfold restL
  simp [List.getD_eq_getElem?_getD, show i < w.length + 1 by omega]
theorem sum_nn_bd {w : List Int} (hw : ∀ x, x ∈ w → 0 ≤ x ∧ x ≤ 1073741824) : 0 ≤ w.sum ∧ w.sum ≤ 1073741824 * (w.length : Int) := by
  induction w with
  | nil => simp
  | cons x w ih =>
    have h1 := ih (fun y hy => hw y (by simp [hy]))
    have h2 := hw x (by simp)
    simp only [List.sum_cons, List.length_cons]
    push_cast
    omega
theorem drop_sum_bd {w : List Int} (hw : ∀ x, x ∈ w → 0 ≤ x ∧ x ≤ 1073741824) (j : Nat) : 0 ≤ (w.drop j).sum ∧ (w.drop j).sum ≤ 1073741824 * (w.length : Int) := by
  have h := sum_nn_bd (w := w.drop j) (fun x hx => hw x (List.mem_of_mem_drop hx))
  rw [List.length_drop] at h
  omega
theorem wn {q : Nat} (h : q ≤ 1000000000) : wrap64 (q : Int) = q := by unfold wrap64; omega
theorem least_l0 {w : List Int} {n : Nat} (hn : w.length = n) (hn2 : n ≤ 64) (hw : ∀ x, x ∈ w → 0 ≤ x ∧ x ≤ 1073741824) (L : Int) {r : Int × Bool}
    (h : Ev (fun k => turndownref06_Least.l1 k L (n : Int) (restL w) (((n + 1) * (n + 1) : Nat) : Int) (List.replicate ((n + 1) * (n + 1)) 0) 0) r) :
    ∀ i, i ≤ n → ∀ R : List Int, R.length = n + 1 → (∀ j, i ≤ j → j ≤ n → R.getD j 0 = (w.drop j).sum) → Ev (fun k => turndownref06_Least.l0 k L (n : Int) w R ((i : Int) - 1)) r := by
  intro i
  induction i with
  | zero =>
    intro _ R hR hj
    have e : R = restL w := by
      apply List.ext_getElem?
      intro j
      rcases Nat.lt_or_ge j (n + 1) with h1 | h1
      · have h3 := hj j (by omega) (by omega)
        rw [List.getD_eq_getElem?_getD, List.getElem?_eq_getElem (by omega)] at h3
        rw [List.getElem?_eq_getElem (by omega)]
        unfold restL
        rw [List.getElem?_map, List.getElem?_range (by omega)]
        exact congrArg some h3
      · rw [List.getElem?_eq_none (by omega), List.getElem?_eq_none (by unfold restL; simp; omega)]
    subst e
    refine Ev.step (fun k => ?_) h
    have a1 : wrap64 ((n : Int) + 1) = ((n + 1 : Nat) : Int) := w1 (by omega)
    have a2 : ((n + 1 : Nat) : Int) * ((n + 1 : Nat) : Int) = (((n + 1) * (n + 1) : Nat) : Int) := by push_cast; rfl
    have a3 : (n + 1) * (n + 1) ≤ 65 * 65 := Nat.mul_le_mul (by omega) (by omega)
    rw [turndownref06_Least.l0, if_neg (by omega), a1, a2, wn (by omega), if_pos (by omega), if_pos (by rw [Int.toNat_natCast]; omega), Int.toNat_natCast]
  | succ i ih =>
    intro hi R hR hj
    have hw' : wrap64 (((i : Int) + 1 - 1) + 1) = ((i + 1 : Nat) : Int) := by unfold wrap64; omega
    have e0 : ((i + 1 : Nat) : Int) - 1 = (i : Int) := by omega
    have hil : i < w.length := by omega
    have hs : (w.drop i).sum = w.getD i 0 + (w.drop (i + 1)).sum := by rw [drop_cons hil 0, List.sum_cons]
    have hb := drop_sum_bd hw i
    have hb1 := drop_sum_bd hw (i + 1)
    have hv : wrap64 (R.getD (i + 1) 0 + w.getD i 0) = (w.drop i).sum := by
      rw [hj (i + 1) (by omega) (by omega)]
      rw [hn] at hb
      unfold wrap64
      omega
    have h2 := ih (by omega) (R.set i (w.drop i).sum) (by rw [List.length_set]; exact hR) (fun j h1 h2 => by
      rw [getD_set' (by omega)]
      by_cases e : i = j
      · subst e; rw [if_pos rfl]
      · rw [if_neg e]; exact hj j (by omega) h2)
    rw [e0]
    refine Ev.step (fun k => ?_) h2
    have a1 : wrap64 ((i : Int) + 1) = ((i + 1 : Nat) : Int) := w1 (by omega)
    have a4 : wrap64 ((i : Int) - 1) = (i : Int) - 1 := by unfold wrap64; omega
    rw [turndownref06_Least.l0, if_pos (by omega), a1, if_pos (by omega), if_pos (by omega), if_pos (by omega), if_pos (by omega), if_pos (by omega), rd_nat, rd_nat, hv, a4, Int.toNat_natCast]
theorem held_nn {w : List Int} {n v i o : Nat} {c : Int} (hw : ∀ x, x ∈ w → 0 ≤ x) (h : Held w n v i o c) : 0 ≤ c := by
  obtain ⟨ls, h1, h2, h3, rfl⟩ := h.some
  have e1 : 0 ≤ costL w ls := by
    clear h h1 h2 h3
    induction ls generalizing w with
    | nil => simp [costL]
    | cons l ls ih =>
      cases w with
      | nil => simp [costL]
      | cons x w =>
        have := ih (w := w) (fun y hy => hw y (by simp [hy]))
        have h4 : 0 ≤ x * (l : Int) := Int.mul_nonneg (hw x (by simp)) (by omega)
        simp only [costL, List.zip_cons_cons, List.map_cons, List.sum_cons] at this ⊢
        omega
  have e2 : 0 ≤ (w.drop i).sum * (v : Int) := by
    refine Int.mul_nonneg ?_ (by omega)
    have : ∀ l : List Int, (∀ x, x ∈ l → 0 ≤ x) → 0 ≤ l.sum := by
      intro l
      induction l with
      | nil => intro _; simp
      | cons x l ih =>
        intro hl
        have := ih (fun y hy => hl y (by simp [hy]))
        have := hl x (by simp)
        simp only [List.sum_cons]; omega
    exact this _ (fun x hx => hw x (List.mem_of_mem_drop hx))
  omega
section
variable {w : List Int} {n : Nat} {L : Nat} {rest : List Int} {r : Int × Bool}
theorem mn_is (a b : Int) : mn a b = mnI a b := rfl
theorem mn_nat (a b : Nat) : mn (a : Int) (b : Int) = ((min a b : Nat) : Int) := by unfold mn; split <;> omega
theorem range'_cons (t e : Nat) : List.range' t (e + 1) = t :: List.range' (t + 1) e := List.range'_succ
theorem stepT_gen (st : List Int × Int) (t i o : Nat) (cost : Int) : (K.stepT n rest i o cost st t).1.length = st.1.length := stepT_len _ _ _ _ _ _ _
theorem wrap_far {cost x : Int} (h0 : 0 ≤ cost) (h : cost < far) (h1 : 0 ≤ x) (h2 : x ≤ 1073741824 * 64) : wrap64 (cost + x) = cost + x := by
  have hfar : far = 1152921504606846976 := rfl
  rw [hfar] at h
  unfold wrap64; omega
theorem dec_far {cost : Int} (h : cost < far) : decide (cost < 1152921504606846976) = true := decide_eq_true h
theorem dec_far' {cost : Int} (h : ¬ cost < far) : decide (cost < 1152921504606846976) = false := decide_eq_false h
theorem idx_small {n i o : Nat} (hn : n ≤ 64) (hi : i ≤ n) (ho : o ≤ n) : i * (n + 1) + o ≤ 1000000000 := by
  have h1 : i * (n + 1) ≤ 64 * 65 := Nat.mul_le_mul (by omega) (by omega)
  exact Nat.le_trans (Nat.add_le_add h1 (Nat.le_trans ho hn)) (by decide)
theorem least_l6 (hn2 : n ≤ 64) (hr : rest.length = n + 1) (hrb : ∀ j, 0 ≤ rest.getD j 0 ∧ rest.getD j 0 ≤ 1073741824 * 64) {best : List Int} {v i o : Nat} (hi : i < n) (ho1 : 1 ≤ o) (ho2 : o ≤ n) {cost : Int} (hc0 : 0 ≤ cost) (hc : cost < far) :
    ∀ e t (st : List Int × Int), t + e = min o (n - i) + 1 → LenOk n st →
    Ev (fun k => turndownref06_Least.l5 k (L : Int) (n : Int) rest (((n + 1) * (n + 1) : Nat) : Int) best ((List.range' t e).foldl (K.stepT n rest i o cost) st).2 (v : Int) ((List.range' t e).foldl (K.stepT n rest i o cost) st).1 (i : Int) ((o + 1 : Nat) : Int)) r →
    Ev (fun k => turndownref06_Least.l6 k (L : Int) (n : Int) rest (((n + 1) * (n + 1) : Nat) : Int) best st.2 (v : Int) st.1 (i : Int) (o : Int) cost (t : Int)) r := by
  have A6 : Hid (∀ j, wrap64 (cost + rest.getD j 0) = cost + rest.getD j 0) := Lib.hid (fun j => wrap_far hc0 hc (hrb j).1 (hrb j).2)
  have HD := Lib.hid (dec_far hc)
  clear hc hc0 hrb
  intro e
  induction e with
  | zero =>
    intro t st ht hl h
    simp only [List.range'_zero, List.foldl_nil] at h
    clear hl
    have hfin : Ev (fun k => turndownref06_Least.j8 k (L : Int) (n : Int) rest (((n + 1) * (n + 1) : Nat) : Int) best st.2 (v : Int) st.1 (i : Int) (o : Int) cost (t : Int) false) r := by
      refine Ev.step (fun k => ?_) h
      rw [turndownref06_Least.j8, if_neg (by simp), w1 (by omega)]
    refine Ev.step (fun k => ?_) hfin
    rw [turndownref06_Least.l6]
    by_cases h1 : (t : Int) ≤ (o : Int)
    · rw [if_pos h1]
      have e1 : wrap64 ((i : Int) + (t : Int)) = ((i + t : Nat) : Int) := by unfold wrap64; omega
      rw [e1, if_neg (by omega)]
    · rw [if_neg h1]
  | succ e ih =>
    intro t st ht hl h
    rw [range'_cons, List.foldl_cons] at h
    have HLN := Lib.hid hl
    clear hl
    have h2 := ih (t + 1) _ (by omega) ((stepT_gen st t i o cost).trans HLN.out) h
    have e1 : wrap64 ((i : Int) + (t : Int)) = ((i + t : Nat) : Int) := by unfold wrap64; omega
    have hj : Ev (fun k => turndownref06_Least.j8 k (L : Int) (n : Int) rest (((n + 1) * (n + 1) : Nat) : Int) best st.2 (v : Int) st.1 (i : Int) (o : Int) cost (t : Int) true) r := by
      by_cases hit : i + t = n
      · have e2 : K.stepT n rest i o cost st t = (st.1, mnI st.2 cost) := by unfold K.stepT; rw [if_pos hit]
        rw [e2] at h2
        simp only at h2
        refine Ev.step (fun k => ?_) h2
        rw [turndownref06_Least.j8, if_pos rfl, e1, if_pos (by omega), w1 (by omega), mn_is]
      · have e2 : K.stepT n rest i o cost st t = (st.1.set (idx n (i + t) (min n (2 * (o - t)))) (mnI (st.1.getD (idx n (i + t) (min n (2 * (o - t)))) 0) (cost + rest.getD (i + t) 0)), st.2) := by unfold K.stepT; rw [if_neg hit]
        rw [e2] at h2
        simp only at h2
        refine Ev.step (fun k => ?_) h2
        have a1 : wrap64 ((n : Int) + 1) = ((n + 1 : Nat) : Int) := w1 (by omega)
        have hm : (i + t) * (n + 1) ≤ 64 * 65 := Nat.mul_le_mul (by omega) (by omega)
        have a2 : wrap64 (((i + t : Nat) : Int) * ((n + 1 : Nat) : Int)) = (((i + t) * (n + 1) : Nat) : Int) := by
          rw [← Int.natCast_mul]; exact wn (Nat.le_trans hm (by decide))
        have a3 : wrap64 ((o : Int) - (t : Int)) = ((o - t : Nat) : Int) := by unfold wrap64; omega
        have a4 : wrap64 (2 * ((o - t : Nat) : Int)) = ((2 * (o - t) : Nat) : Int) := by unfold wrap64; omega
        have a5 : wrap64 ((((i + t) * (n + 1) : Nat) : Int) + ((min n (2 * (o - t)) : Nat) : Int)) = ((idx n (i + t) (min n (2 * (o - t))) : Nat) : Int) := by
          unfold idx
          rw [← Int.natCast_add]; exact wn (idx_small hn2 (by omega) (by omega))
        clear hm
        have hlt : idx n (i + t) (min n (2 * (o - t))) < st.1.length := by rw [HLN.out]; exact idx_lt (by omega) (by omega)
        have a6 := A6.out (i + t)
        rw [turndownref06_Least.j8, if_pos rfl, e1, if_neg (by omega), a1, a2, a3, a4, mn_nat, a5, if_pos (by omega), if_pos (by omega), if_pos (by omega), if_pos (by omega), rd_nat, rd_nat, a6, mn_is, Int.toNat_natCast, w1 (by omega)]
    refine Ev.step (fun k => ?_) hj
    rw [turndownref06_Least.l6, if_pos (by omega), e1, if_pos (by omega)]
    rw [HD.out]
theorem least_l5 (hw : ∀ x, x ∈ w → 0 ≤ x) (hn2 : n ≤ 64) (hr : rest.length = n + 1) (hrb : ∀ j, 0 ≤ rest.getD j 0 ∧ rest.getD j 0 ≤ 1073741824 * 64) {best : List Int} {v i : Nat} (hT : TabOk w n v best) (hi : i < n) :
    ∀ e o (st : List Int × Int), o + e = n → LenOk n st →
    Ev (fun k => turndownref06_Least.l4 k (L : Int) (n : Int) rest (((n + 1) * (n + 1) : Nat) : Int) best ((List.range' o e).foldl (stepO n rest best i) st).2 (v : Int) ((List.range' o e).foldl (stepO n rest best i) st).1 ((i + 1 : Nat) : Int)) r →
    Ev (fun k => turndownref06_Least.l5 k (L : Int) (n : Int) rest (((n + 1) * (n + 1) : Nat) : Int) best st.2 (v : Int) st.1 (i : Int) ((o + 1 : Nat) : Int)) r := by
  intro e
  induction e with
  | zero =>
    intro o st ho hl h
    simp only [List.range'_zero, List.foldl_nil] at h
    clear hl
    refine Ev.step (fun k => ?_) h
    rw [turndownref06_Least.l5, if_neg (by omega), w1 (by omega)]
  | succ e ih =>
    intro o st ho hl h
    rw [range'_cons, List.foldl_cons] at h
    have HLN := Lib.hid hl
    clear hl
    have h2 := ih (o + 1) _ (by omega) (stepO_len HLN.out) h
    have a1 : wrap64 ((n : Int) + 1) = ((n + 1 : Nat) : Int) := w1 (by omega)
    have hm : i * (n + 1) ≤ 64 * 65 := Nat.mul_le_mul (by omega) (by omega)
    have a2 : wrap64 ((i : Int) * ((n + 1 : Nat) : Int)) = ((i * (n + 1) : Nat) : Int) := by
      rw [← Int.natCast_mul]; exact wn (Nat.le_trans hm (by decide))
    clear hm
    have a3 : wrap64 (((i * (n + 1) : Nat) : Int) + ((o + 1 : Nat) : Int)) = ((idx n i (o + 1) : Nat) : Int) := by
      unfold idx
      rw [← Int.natCast_add]; exact wn (idx_small hn2 (by omega) (by omega))
    have hlt : idx n i (o + 1) < best.length := by rw [hT.1]; exact idx_lt (by omega) (by omega)
    have hstep : ∀ k, turndownref06_Least.l5 (k + 1) (L : Int) (n : Int) rest (((n + 1) * (n + 1) : Nat) : Int) best st.2 (v : Int) st.1 (i : Int) ((o + 1 : Nat) : Int) = turndownref06_Least.l6 k (L : Int) (n : Int) rest (((n + 1) * (n + 1) : Nat) : Int) best st.2 (v : Int) st.1 (i : Int) ((o + 1 : Nat) : Int) (best.getD (idx n i (o + 1)) 0) 0 := fun k => by
      rw [turndownref06_Least.l5, if_pos (by omega), a1, a2, a3, if_pos (by omega), if_pos (by omega), rd_nat]
    refine Ev.step hstep ?_
    clear hstep
    by_cases hc : best.getD (idx n i (o + 1)) 0 < far
    · have hc0 : 0 ≤ best.getD (idx n i (o + 1)) 0 := by
        rcases hT.2 i (o + 1) (by omega) (by omega) with e1 | e1
        · rw [e1]; decide
        · exact held_nn hw e1
      have e2 : stepO n rest best i st o = (List.range' 0 (min (o + 1) (n - i) + 1)).foldl (K.stepT n rest i (o + 1) (best.getD (idx n i (o + 1)) 0)) st := by
        unfold stepO
        rw [if_pos hc, List.range_eq_range']
      rw [e2] at h2
      exact least_l6 hn2 hr hrb hi (by omega) (by omega) hc0 hc _ 0 st (by rw [Nat.zero_add]) HLN.out h2
    · have e2 : stepO n rest best i st o = st := by unfold stepO; rw [if_neg hc]
      rw [e2] at h2
      have hj : Ev (fun k => turndownref06_Least.j8 k (L : Int) (n : Int) rest (((n + 1) * (n + 1) : Nat) : Int) best st.2 (v : Int) st.1 (i : Int) ((o + 1 : Nat) : Int) (best.getD (idx n i (o + 1)) 0) 0 false) r := by
        refine Ev.step (fun k => ?_) h2
        rw [turndownref06_Least.j8, if_neg (by simp), w1 (by omega)]
      refine Ev.step (fun k => ?_) hj
      have HD := Lib.hid (dec_far' hc)
      have g1 : (0 : Int) ≤ ((o + 1 : Nat) : Int) := by clear hc a1 a2 a3 hlt; omega
      have g2 : wrap64 ((i : Int) + 0) ≤ (n : Int) := by
        clear hc a1 a2 a3 hlt
        unfold wrap64; omega
      rw [turndownref06_Least.l6, if_pos g1, if_pos g2, HD.out]
theorem least_l4 (hw : ∀ x, x ∈ w → 0 ≤ x) (hn2 : n ≤ 64) (hr : rest.length = n + 1) (hrb : ∀ j, 0 ≤ rest.getD j 0 ∧ rest.getD j 0 ≤ 1073741824 * 64) {best : List Int} {v : Nat} (hv : v ≤ 100) (hT : TabOk w n v best) :
    ∀ e i (st : List Int × Int), i + e = n → LenOk n st →
    Ev (fun k => turndownref06_Least.l2 k (L : Int) (n : Int) rest (((n + 1) * (n + 1) : Nat) : Int) ((List.range' i e).foldl (K.stepI n rest best) st).1 ((List.range' i e).foldl (K.stepI n rest best) st).2 ((v + 1 : Nat) : Int)) r →
    Ev (fun k => turndownref06_Least.l4 k (L : Int) (n : Int) rest (((n + 1) * (n + 1) : Nat) : Int) best st.2 (v : Int) st.1 (i : Int)) r := by
  intro e
  induction e with
  | zero =>
    intro i st hi hl h
    simp only [List.range'_zero, List.foldl_nil] at h
    clear hl
    refine Ev.step (fun k => ?_) h
    rw [turndownref06_Least.l4, if_neg (by omega), w1 (by omega)]
  | succ e ih =>
    intro i st hi hl h
    rw [range'_cons, List.foldl_cons] at h
    have HLN := Lib.hid hl
    clear hl
    have h2 := ih (i + 1) _ (by omega) (stepI_len HLN.out) h
    have e2 : K.stepI n rest best st i = (List.range' 0 n).foldl (stepO n rest best i) st := by unfold K.stepI; rw [List.range_eq_range']
    rw [e2] at h2
    refine Ev.step (fun k => ?_) (least_l5 (v := v) hw hn2 hr hrb hT (by omega) n 0 st (by omega) HLN.out h2)
    rw [turndownref06_Least.l4, if_pos (by omega)]; rfl
theorem fill_set {x : Int} {q : Nat} {T : List Int} (hq : q < T.length) (h : T.take q = List.replicate q x) : (T.set q x).take (q + 1) = List.replicate (q + 1) x := by
  rw [List.take_succ_eq_append_getElem (by rw [List.length_set]; exact hq), List.replicate_succ']
  congr 1
  · rw [List.take_set_of_le (Nat.le_refl _), h]
  · simp
theorem fill_all {x : Int} {q : Nat} {T : List Int} (hq : q = T.length) (h : T.take q = List.replicate q x) : T = List.replicate q x := by
  rw [← h, List.take_of_length_le (by omega)]
theorem least_l3 (hn2 : n ≤ 64) {best : List Int} {v : Nat} {out : Int}
    (h : Ev (fun k => turndownref06_Least.l4 k (L : Int) (n : Int) rest (((n + 1) * (n + 1) : Nat) : Int) best out (v : Int) (List.replicate ((n + 1) * (n + 1)) far) 0) r) :
    ∀ e q (T : List Int), q + e = (n + 1) * (n + 1) → T.length = (n + 1) * (n + 1) → T.take q = List.replicate q far → Ev (fun k => turndownref06_Least.l3 k (L : Int) (n : Int) rest (((n + 1) * (n + 1) : Nat) : Int) best out (v : Int) T (q : Int)) r := by
  have hs : (n + 1) * (n + 1) ≤ 65 * 65 := Nat.mul_le_mul (by omega) (by omega)
  obtain ⟨S, hS⟩ : ∃ S, (n + 1) * (n + 1) = S := ⟨_, rfl⟩
  rw [hS] at h hs ⊢
  intro e
  induction e with
  | zero =>
    intro q T hq hT ht
    have e1 := fill_all (by omega) ht
    have e2 : q = S := by omega
    rw [e2] at e1
    subst e1
    refine Ev.step (fun k => ?_) h
    rw [turndownref06_Least.l3, if_neg (by omega)]
  | succ e ih =>
    intro q T hq hT ht
    refine Ev.step (fun k => ?_) (ih (q + 1) (T.set q far) (by omega) (by rw [List.length_set]; exact hT) (fill_set (by omega) ht))
    rw [turndownref06_Least.l3, if_pos (by omega), if_pos (by omega), if_pos (by omega), w1 (by omega), Int.toNat_natCast]
    rfl
theorem least_l1 (hn2 : n ≤ 64) (hn1 : 1 ≤ n)
    (h : Ev (fun k => turndownref06_Least.l2 k (L : Int) (n : Int) rest (((n + 1) * (n + 1) : Nat) : Int) ((List.replicate ((n + 1) * (n + 1)) far).set 1 0) far 0) r) :
    ∀ e q (T : List Int), q + e = (n + 1) * (n + 1) → T.length = (n + 1) * (n + 1) → T.take q = List.replicate q far → Ev (fun k => turndownref06_Least.l1 k (L : Int) (n : Int) rest (((n + 1) * (n + 1) : Nat) : Int) T (q : Int)) r := by
  have hs : (n + 1) * (n + 1) ≤ 65 * 65 := Nat.mul_le_mul (by omega) (by omega)
  have hs1 : 2 * 2 ≤ (n + 1) * (n + 1) := Nat.mul_le_mul (by omega) (by omega)
  obtain ⟨S, hS⟩ : ∃ S, (n + 1) * (n + 1) = S := ⟨_, rfl⟩
  rw [hS] at h hs hs1 ⊢
  intro e
  induction e with
  | zero =>
    intro q T hq hT ht
    have e1 := fill_all (by omega) ht
    have e2 : q = S := by omega
    rw [e2] at e1
    subst e1
    refine Ev.step (fun k => ?_) h
    rw [turndownref06_Least.l1, if_neg (by omega), if_pos (by rw [List.length_replicate]; omega)]
    rfl
  | succ e ih =>
    intro q T hq hT ht
    refine Ev.step (fun k => ?_) (ih (q + 1) (T.set q far) (by omega) (by rw [List.length_set]; exact hT) (fill_set (by omega) ht))
    rw [turndownref06_Least.l1, if_pos (by omega), if_pos (by omega), if_pos (by omega), w1 (by omega), Int.toNat_natCast]
    rfl
theorem least_l2 (hn : w.length = n) (hw : ∀ x, x ∈ w → 0 ≤ x) (hn2 : n ≤ 64) (hn1 : 1 ≤ n) (hro : RestOk w n rest) (hr : rest.length = n + 1) (hrb : ∀ j, 0 ≤ rest.getD j 0 ∧ rest.getD j 0 ≤ 1073741824 * 64) (hL : L ≤ 32) :
    ∀ e v, v + e = L + 1 → Ev (fun k => turndownref06_Least.l2 k (L : Int) (n : Int) rest (((n + 1) * (n + 1) : Nat) : Int) (levels n rest v).1 (levels n rest v).2 (v : Int)) ((levels n rest (L + 1)).2, true) := by
  intro e
  induction e with
  | zero =>
    intro v hv
    refine Ev.step (fun k => ?_) (Ev.now _)
    have : v = L + 1 := by omega
    subst this
    rw [turndownref06_Least.l2, if_neg (by omega)]
  | succ e ih =>
    intro v hv
    have hT := (levels_ok hn hn1 hro v).1
    have h2 := ih (v + 1) (by omega)
    have e2 : levels n rest (v + 1) = (List.range' 0 n).foldl (K.stepI n rest (levels n rest v).1) (List.replicate ((n + 1) * (n + 1)) far, (levels n rest v).2) := by
      simp only [levels, stepL, List.range_eq_range']
    have h3 : Ev (fun k => turndownref06_Least.l4 k (L : Int) (n : Int) rest (((n + 1) * (n + 1) : Nat) : Int) (levels n rest v).1 (levels n rest v).2 (v : Int) (List.replicate ((n + 1) * (n + 1)) far) ((0 : Nat) : Int)) ((levels n rest (L + 1)).2, true) :=
      least_l4 (L := L) (v := v) hw hn2 hr hrb (by omega) hT n 0 (List.replicate ((n + 1) * (n + 1)) far, (levels n rest v).2) (by omega) (by simp [LenOk]) (by rw [← e2]; exact h2)
    have h4 := least_l3 (L := L) hn2 h3 ((n + 1) * (n + 1)) 0 (List.replicate ((n + 1) * (n + 1)) 0) (by omega) (by simp) (by simp)
    refine Ev.step (fun k => ?_) h4
    have hs : (n + 1) * (n + 1) ≤ 65 * 65 := Nat.mul_le_mul (by omega) (by omega)
    rw [turndownref06_Least.l2, if_pos (by omega), if_pos (by omega), if_pos (by rw [Int.toNat_natCast]; omega), Int.toNat_natCast]
    rfl
end
theorem two_pow_nat {L : Nat} (hL : L ≤ 32) : shl .i64 1 (L : Int) = ((2 ^ L : Nat) : Int) := by
  rw [shl_one (by omega) (by omega), Int.toNat_natCast]
  push_cast; rfl
def leastI (ws : List Int) (L : Nat) : Int := (levels ws.length (restL (descL ws)) (L + 1)).2
theorem least_ev {ws : List Int} (h1 : 1 ≤ ws.length) (h64 : ws.length ≤ 64) (hw : ∀ x, x ∈ ws → 0 ≤ x ∧ x ≤ 1073741824) {L : Nat} (hL : L ≤ 32) :
    Ev (fun k => turndownref06_Least.f k ws (L : Int)) (if ws.length ≤ 2 ^ L then (leastI ws L, true) else (0, false)) := by
  obtain ⟨w, hwd⟩ : ∃ w, descL ws = w := ⟨_, rfl⟩
  have hperm : w.Perm ws := by rw [← hwd]; exact descL_perm ws
  have hlen : w.length = ws.length := hperm.length_eq
  have hw' : ∀ x, x ∈ w → 0 ≤ x ∧ x ≤ 1073741824 := fun x hx => hw x (hperm.subset hx)
  obtain ⟨n, hn⟩ : ∃ n, ws.length = n := ⟨_, rfl⟩
  have hj : ∀ b, Ev (fun k => turndownref06_Least.j0 k ws (L : Int) (n : Int) b) (if b = true then (0, false) else (leastI ws L, true)) := by
    intro b
    cases b with
    | true =>
      refine Ev.step (fun k => ?_) (Ev.now _)
      rw [turndownref06_Least.j0, if_pos rfl]; rfl
    | false =>
      rw [if_neg (by simp)]
      have hrl : (restL w).length = n + 1 := by unfold restL; simp [hlen, hn]
      have hro : RestOk w n (restL w) := by have := restL_ok w; rw [hlen, hn] at this; exact this
      have hrb : ∀ j, 0 ≤ (restL w).getD j 0 ∧ (restL w).getD j 0 ≤ 1073741824 * 64 := fun j => by
        by_cases hj : j ≤ n
        · rw [hro j hj]
          have := drop_sum_bd hw' j
          omega
        · have e : (restL w).getD j 0 = 0 := by rw [List.getD_eq_getElem?_getD, List.getElem?_eq_none (by omega)]; rfl
          rw [e]; omega
      have a2 := least_l2 (w := w) (L := L) (by omega) (fun x hx => (hw' x hx).1) (by omega) (by omega) hro hrl hrb hL (L + 1) 0 (by omega)
      have a1 := least_l1 (L := L) (rest := restL w) (by omega) (by omega) a2 ((n + 1) * (n + 1)) 0 (List.replicate ((n + 1) * (n + 1)) 0) (by omega) (by simp) (by simp)
      have a0 := least_l0 (w := w) (n := n) (by omega) (by omega) hw' (L : Int) a1 n (Nat.le_refl _) (List.replicate (n + 1) 0) (by simp) (fun j h1 h2 => by
        have : j = n := by omega
        subst this
        rw [List.drop_of_length_le (by omega)]
        simp [List.getD_eq_getElem?_getD])
      have hd := desc_ev (l := ws) (by omega)
      rw [hwd] at hd
      have hr2 : ((levels n (restL w) (L + 1)).2, true) = (leastI ws L, true) := by unfold leastI; rw [hwd, hn]
      rw [hr2] at a0
      refine Ev.step (fun k => ?_) (Ev.bind (f := fun k t216 => (if 0 ≤ (wrap64 ((n : Int) + 1)) then (if (wrap64 ((n : Int) + 1) : Int).toNat ≤ 35184372088832 then (turndownref06_Least.l0 k (L : Int) (n : Int) t216 (List.replicate (wrap64 ((n : Int) + 1) : Int).toNat 0) (wrap64 ((n : Int) - 1))) else (none)) else (none))) hd ?_)
      · rw [turndownref06_Least.j0, if_neg (by simp)]
      · have b1 : wrap64 ((n : Int) + 1) = ((n + 1 : Nat) : Int) := w1 (by omega)
        have b2 : wrap64 ((n : Int) - 1) = (n : Int) - 1 := by unfold wrap64; omega
        simp only [b1, b2, Int.toNat_natCast, if_pos (show (0 : Int) ≤ ((n + 1 : Nat) : Int) by omega), if_pos (show n + 1 ≤ 35184372088832 by omega)]
        exact a0
  have hpow := two_pow_nat hL
  by_cases h6 : (L : Int) < 6
  · have hp2 : (2 : Nat) ^ L ≤ 2 ^ 5 := Nat.pow_le_pow_right (by omega) (by omega)
    have e : (if ws.length ≤ 2 ^ L then (leastI ws L, true) else (0, false)) = (if decide ((n : Int) > shl .i64 1 (L : Int)) = true then (0, false) else (leastI ws L, true)) := by
      rw [hpow, hn]
      by_cases hc : n ≤ 2 ^ L
      · have : decide ((n : Int) > ((2 ^ L : Nat) : Int)) = false := decide_eq_false (by omega)
        rw [if_pos hc, this]; rfl
      · have : decide ((n : Int) > ((2 ^ L : Nat) : Int)) = true := decide_eq_true (by omega)
        rw [if_neg hc, this]; rfl
    rw [e]
    refine Ev.congr (fun k => ?_) (hj _)
    unfold turndownref06_Least.f
    rw [if_pos h6, if_pos (by omega), hn]
  · have hp2 : (2 : Nat) ^ 6 ≤ 2 ^ L := Nat.pow_le_pow_right (by omega) (by omega)
    have e : (if ws.length ≤ 2 ^ L then (leastI ws L, true) else (0, false)) = (leastI ws L, true) := by rw [if_pos (by omega)]
    rw [e]
    refine Ev.congr (fun k => ?_) (hj false)
    unfold turndownref06_Least.f
    rw [if_neg h6, hn]
theorem leastI_opt {ws : List Int} (h1 : 1 ≤ ws.length) (h64 : ws.length ≤ 64) (hw : ∀ x, x ∈ ws → 0 ≤ x ∧ x ≤ 1073741824) {L : Nat} (hL : L ≤ 32) (hc : ws.length ≤ 2 ^ L) : Opt ws L (leastI ws L) := by
  unfold leastI
  have hperm := descL_perm ws
  have hlen : (descL ws).length = ws.length := hperm.length_eq
  refine levels_opt hperm (descL_desc ws) (fun x hx => (hw x (hperm.subset hx)).1) hlen h1 hc (by rw [← hlen]; exact restL_ok _) (fun ps hp hf => ?_)
  have hb : ∀ qs : WL, (∀ p, p ∈ qs → (0 ≤ p.1 ∧ p.1 ≤ 1073741824) ∧ p.2 ≤ 32) → costP qs ≤ 34359738368 * (qs.length : Int) := by
    intro qs
    induction qs with
    | nil => intro _; simp [costP]
    | cons p qs ih =>
      intro h
      have h2 := ih (fun q hq => h q (by simp [hq]))
      obtain ⟨⟨h3, h4⟩, h5⟩ := h p (by simp)
      have h6 : p.1 * (p.2 : Int) ≤ 1073741824 * 32 := Int.le_trans (Int.mul_le_mul_of_nonneg_right h4 (by omega)) (Int.mul_le_mul_of_nonneg_left (by omega) (by omega))
      rw [costP_cons, List.length_cons]
      push_cast
      omega
  have h7 := hb ps (fun p hp' => ⟨hw _ (hp.subset (List.mem_map.2 ⟨p, hp', rfl⟩)), Nat.le_trans (hf.le p hp') hL⟩)
  rw [for_length hp] at h7
  have : far = 1152921504606846976 := rfl
  omega
end Go.Proofs.Ytcpojohpmcnnhaa.L

set_option linter.unusedVariables false
set_option linter.unusedSimpArgs false
namespace Go.Proofs.Ytcpojohpmcnnhaa.Pure
open Go.RowKit Go.Proofs.Ytcpojohpmcnnhaa.PA Go.Proofs.YtcpojohpmcnnhaaW.PrintWords Go.Proofs.YtcpojohpmcnnhaaW.PrintLast Go.Proofs.Ytcpojohpmcnnhaa.L Go.Proofs.Ytcpojohpmcnnhaa.K
theorem best_l0 {l : List Int} {L : Int} (hl : l.length ≤ 1000) (h : ∀ s, s < l.length → l.getD s 0 ≤ L) : Ev (fun k => turndownlaw06_CodeBest.l0 k L l 0) true := by
  have key : ∀ e q, q + e = l.length → Ev (fun k => turndownlaw06_CodeBest.l0 k L l (q : Int)) true := by
    intro e
    induction e with
    | zero =>
      intro q hq
      refine Ev.step (fun k => ?_) (Ev.bind (f := fun _ t => some t) awake_ev (Ev.now _))
      rw [turndownlaw06_CodeBest.l0, if_neg (by omega)]
    | succ e ih =>
      intro q hq
      refine Ev.step (fun k => ?_) (ih (q + 1) (by omega))
      have := h q (by omega)
      rw [turndownlaw06_CodeBest.l0, if_pos (by omega), if_pos (by omega), rd_nat, if_neg (by omega), w1 (by omega)]
  exact key l.length 0 (by omega)
theorem best_bad (L : Int) (w : List Int) : Ev (fun k => turndownlaw06_CodeBest.j0 k L w [] 0 2 true) true := by
  refine Ev.step (fun k => ?_) (Ev.bind (f := fun _ t => some t) awake_ev (Ev.now _))
  rw [turndownlaw06_CodeBest.j0, if_pos rfl, if_pos (by rfl), if_pos rfl, if_pos rfl]
theorem best_none {w : List Int} {L : Nat} (h : Ev (fun k => turndownref06_Least.f k w (L : Int)) (0, false)) : Ev (fun k => turndownlaw06_CodeBest.j0 k (L : Int) w [] 0 6 false) true := by
  refine Ev.step (fun k => ?_) (Ev.bind (f := fun k (bt253 : Int × Bool) => (if bt253.2 = true then (if (6 : Int) = 0 then (if (0 : Int) = bt253.1 then (if (([] : List Int).length : Int) = (w.length : Int) then ((turndownref06_Lengths.f k []).bind fun t256 => (if t256 = true then ((turndownref06_Possible.f k []).bind fun t257 => (if t257 = true then ((turndownref06_Cost.f k w []).bind fun t258 => (turndownlaw06_CodeBest.j1 k (L : Int) [] (t258 != 0))) else (turndownlaw06_CodeBest.j1 k (L : Int) [] true))) else (turndownlaw06_CodeBest.j1 k (L : Int) [] true))) else (turndownlaw06_CodeBest.j1 k (L : Int) [] true)) else (turndownlaw06_CodeBest.j1 k (L : Int) [] true)) else (turndownlaw06_CodeBest.j1 k (L : Int) [] true)) else (if (([] : List Int).length : Int) = 0 then (if (0 : Int) = 0 then (if (6 : Int) = 6 then ((turndownlaw06_awake.f k).bind fun t255 => (some t255)) else (some false)) else (some false)) else (some false)))) h ?_)
  · rw [turndownlaw06_CodeBest.j0, if_neg (by simp)]
  · simp only [Bool.false_eq_true, if_false]
    refine Ev.congr (fun k => ?_) (Ev.bind (f := fun _ t => some t) awake_ev (Ev.now _))
    rw [if_pos (by rfl), if_pos trivial, if_pos trivial]
theorem best_good {w : List Int} {L : Nat} {c : Int} (hL : L ≤ 32) (hw : w.length ≤ 64) (h1 : 1 ≤ w.length) (hB : BestOk w L) (hc : costW w (lensB w L) w.length 0 = c) (h : Ev (fun k => turndownref06_Least.f k w (L : Int)) (c, true)) : Ev (fun k => turndownlaw06_CodeBest.j0 k (L : Int) w (lensB w L) c 0 false) true := by
  obtain ⟨l, hl⟩ : ∃ l, lensB w L = l := ⟨_, rfl⟩
  have a1 := hB.len
  have a2 := hB.ok
  have a3 := hB.le
  have a4 := hB.sum
  rw [hl] at hc a1 a2 a3 a4 ⊢
  refine Ev.step (fun k => ?_) (Ev.bind (f := fun k (bt253 : Int × Bool) => (if bt253.2 = true then (if (0 : Int) = 0 then (if c = bt253.1 then (if (l.length : Int) = (w.length : Int) then ((turndownref06_Lengths.f k l).bind fun t256 => (if t256 = true then ((turndownref06_Possible.f k l).bind fun t257 => (if t257 = true then ((turndownref06_Cost.f k w l).bind fun t258 => (turndownlaw06_CodeBest.j1 k (L : Int) l (t258 != c))) else (turndownlaw06_CodeBest.j1 k (L : Int) l true))) else (turndownlaw06_CodeBest.j1 k (L : Int) l true))) else (turndownlaw06_CodeBest.j1 k (L : Int) l true)) else (turndownlaw06_CodeBest.j1 k (L : Int) l true)) else (turndownlaw06_CodeBest.j1 k (L : Int) l true)) else (if (l.length : Int) = 0 then (if c = 0 then (if (0 : Int) = 6 then ((turndownlaw06_awake.f k).bind fun t255 => (some t255)) else (some false)) else (some false)) else (some false)))) h ?_)
  · rw [turndownlaw06_CodeBest.j0, if_neg (by simp)]
  · simp only [if_true, if_pos (show (l.length : Int) = (w.length : Int) by omega)]
    have b1 := refLengths_ev (l := l) (by omega)
    have e1 : (okB 0 32 l && lenB l) = true := by rw [a2, lenB_iff.2 (by omega)]; rfl
    rw [e1] at b1
    refine Ev.bind b1 ?_
    simp only [if_true]
    have b2 := refPossible_ev (l := l) (by omega) a2
    rw [decide_eq_true a4] at b2
    refine Ev.bind b2 ?_
    simp only [if_true]
    have b3 := refCost_ev (ws := w) (ls := l) (by omega) (by omega)
    rw [hc] at b3
    refine Ev.bind b3 ?_
    have : (c != c) = false := by simp
    simp only [this]
    refine Ev.step (fun k => ?_) (best_l0 (l := l) (L := (L : Int)) (by omega) (fun s hs => (a3 s (by omega)).2))
    rw [turndownlaw06_CodeBest.j1, if_neg (by simp)]
theorem CodeBest : turndownlaw06_CodeBest.Pure := by
  intro l0 a1 _ _ _ _
  obtain ⟨w, hw⟩ : ∃ w, l0.take 70 = w := ⟨_, rfl⟩
  have hwl : w.length ≤ 70 := by rw [← hw, List.length_take]; omega
  refine Ev.rounds (Ev.congr (f := fun k => (code_Best.f k w a1).bind fun bt246 => ((turndownref06_Weights.f k w).bind fun t251 => (if t251 = true then (if a1 < 0 then (turndownlaw06_CodeBest.j0 k a1 w bt246.1 bt246.2.1 bt246.2.2 true) else (turndownlaw06_CodeBest.j0 k a1 w bt246.1 bt246.2.1 bt246.2.2 (decide (a1 > 32)))) else (turndownlaw06_CodeBest.j0 k a1 w bt246.1 bt246.2.1 bt246.2.2 true)))) (fun k => ?_) ?_)
  · unfold turndownlaw06_CodeBest.f turndownlaw06_list.f
    rw [hw]; rfl
  refine Ev.bind (best_ev w a1 (by omega)) (Ev.bind (refWeights_ev (by omega)) ?_)
  by_cases h1 : (lenB w && okB 0 1073741824 w) = true
  · have h1' : (okB 0 1073741824 w && lenB w) = true := by rw [Bool.and_comm]; exact h1
    simp only [h1', if_true]
    rw [Bool.and_eq_true] at h1'
    have hlen := lenB_iff.1 h1'.2
    have hwt := okB_iff.1 h1'.1
    by_cases h2 : a1 < 0
    · simp only [if_pos h2]
      have : bestR w a1 = ([], 0, 2) := by unfold bestR; rw [if_neg (fun h => by omega)]
      rw [this]
      exact best_bad _ _
    · simp only [if_neg h2]
      by_cases h3 : a1 > 32
      · have : bestR w a1 = ([], 0, 2) := by unfold bestR; rw [if_neg (fun h => by omega)]
        rw [this, decide_eq_true h3]
        exact best_bad _ _
      · obtain ⟨L, rfl⟩ := Int.eq_ofNat_of_zero_le (show 0 ≤ a1 by omega)
        have hL : L ≤ 32 := by omega
        rw [decide_eq_false h3]
        have hle := least_ev hlen.1 hlen.2 hwt hL
        by_cases h4 : w.length ≤ 2 ^ L
        · have : bestR w (L : Int) = (lensB w L, costW w (lensB w L) w.length 0, 0) := by unfold bestR; rw [if_pos ⟨h1, by omega, by omega⟩, Int.toNat_natCast, if_pos h4]
          rw [this]
          rw [if_pos h4] at hle
          have hB := lensB_ok hlen.1 hlen.2 hwt hL h4
          have hc : costW w (lensB w L) w.length 0 = leastI w L := by rw [hB.cost]; exact opt_unique hB.opt (leastI_opt hlen.1 hlen.2 hwt hL h4)
          rw [hc]
          exact best_good hL hlen.2 hlen.1 hB hc hle
        · have : bestR w (L : Int) = ([], 0, 6) := by unfold bestR; rw [if_pos ⟨h1, by omega, by omega⟩, Int.toNat_natCast, if_neg h4]
          rw [this]
          rw [if_neg h4] at hle
          exact best_none hle
  · have h1' : ¬ (okB 0 1073741824 w && lenB w) = true := by rw [Bool.and_comm]; exact h1
    simp only [if_neg h1']
    have : bestR w a1 = ([], 0, 2) := by unfold bestR; rw [if_neg (fun h => h1 h.1)]
    rw [this]
    exact best_bad _ _
end Go.Proofs.Ytcpojohpmcnnhaa.Pure

namespace Go.Proofs.Ytcpojohpmcnnhaa.codeBest
open Go.ChangeShapes Go.WideShapes Go.ChangeAt Go.RowKit
open Go.ChangeMaps (open_string shut_string)
set_option linter.unusedVariables false
theorem own : ownKnob Try.prog.godebug = none := by kernel_rfl
theorem laidOut : laidOutB Try.prog = true := by kernel_rfl
def IsRow (k : IntKind) (w : World) (a : Option Addr) (len cap : Nat) (zs : List Int) : Prop :=
 (a = none ∧ len = 0 ∧ cap = 0 ∧ zs = []) ∨
 ∃ x, a = some x ∧ len ≤ cap ∧ cap ≤ maxLen ∧ zs.length = cap ∧ (∀ i, i < zs.length → w.cell? (x.add i) = some (.int k (zs.getD i 0))) ∧ ∀ n ∈ zs, (Lit.int k n).wf = true
set_option maxRecDepth 100000 in
theorem lifted (os : Os) (started : os.Started) (H : Type) (enc : TypeId × Value → H) :
  ReturnsInHanded {} Try.checked os 3 .any (Rows.codeBestSpec.pre6 enc Try.prog Try.f3 Rows.codeBestRow.domain false) (Rows.codeBestSpec.post enc Try.prog Try.f3 false true false false) := by
 refine returnsInHanded_of_change_sized (C := Try.checked) own started (by kernel_rfl) Try.func3
  (ChangeSpec.witness6 (enc := enc) (C := Try.checked) false ⟨#[], #[.slice none 0 0, .int .i64 0], []⟩ 8 (by kernel_rfl) (by kernel_rfl) (by kernel_rfl) (by kernel_rfl)) ?_
 intro W base args ds gs before hval0 hW hcnd hsz0 _
 have hsz : (DataW.weightsEach Try.prog (Try.f3.params.toList ++ Rows.codeBestSpec.plain.varTypes Try.prog) (ds ++ gs)).all (· ≤ reachBytes) = true := hsz0
 have hval : ∀ (j : Nat) t v, Try.f3.params[j]? = some t → args[j]? = some v → Value.okWide Try.prog W .any base t v := hval0
 have hW' := hW
 obtain ⟨p, q, hA0, hV, rfl, hfz, hnd⟩ := hW
 have hA : DataW.TrodAll enc Try.prog W 0 (fun _ => true) true Try.f3.params.toList args.toList ds p := hA0
 rw [Try.params3] at hA hval hsz
 obtain ⟨v0, vs0, d0, ds0, p0, q0, hargs, rfl, rfl, h0, r0⟩ := trodAll_cons hA
 obtain ⟨v1, vs1, d1, ds1, p1, q1, rfl, rfl, rfl, h1, r1⟩ := trodAll_cons r0
 obtain ⟨rfl, rfl, rfl⟩ := trodAll_nil r1
 obtain rfl : args = #[v0, v1] := by cases args; simp_all
 obtain ⟨rfl, rfl⟩ := trodVars_none hV
 obtain ⟨a0, len0, cap0, rfl⟩ := okWide_slice Try.underlying22 (hval 0 22 v0 rfl rfl)
 have k0 := h0
 have lt0 : ∀ x ∈ p0, x.block < W.heap.size := by obtain ⟨m, hm⟩ := k0; exact DataW.trod_lt m _ _ _ hm
 obtain ⟨z0, w0⟩ : ∃ zs, IsRow .i64 W a0 len0 cap0 zs := by
  obtain ⟨fuel, hf⟩ := h0
  rcases open_ints Try.underlying22 Try.underlying3 (by kernel_rfl) hf with ⟨hcs, _⟩ | ⟨x, l, c, zs, hcs, _, hl, hm, hz, _, hcell, hwz⟩
  ·
   simp [Value.cells] at hcs
   obtain ⟨rfl, rfl, rfl⟩ := hcs
   exact ⟨[], .inl ⟨rfl, rfl, rfl, rfl⟩⟩
  ·
   simp [Value.cells] at hcs
   obtain ⟨rfl, rfl, rfl⟩ := hcs
   exact ⟨zs, .inr ⟨_, rfl, hl, hm, by simpa using hz, hcell, hwz⟩⟩
 have y0 : len0 * 8 ≤ 140737488351232 := Go.Proofs.YtcpojohpmcnnhaaW.PrintWords.sized_ints hsz (j := 0) (t := 22) rfl rfl Try.underlying22 Try.underlying3 (by kernel_rfl) (by kernel_rfl) h0
 obtain ⟨a1, rfl, rfl, rfl, w1⟩ := open_int Try.underlying3 (hval 1 3 v1 rfl rfl) h1
 clear hA0 hval0 hsz0 hsz
 refine (PA.turndownlaw06_CodeBest.walk Pure.CodeBest a0 len0 cap0 z0 a1 W w0 y0 w1).mono fun e W' ⟨he, bel⟩ => ?_
 subst he
 exact ⟨_, rfl, _, _, _, [], _, [], hW', trodAll_mk1 (shut_bool Try.underlying4 _), (trodAll_cons_mk (Below.trod laidOut (by kernel_rfl) (of_decide_eq_true (by kernel_rfl)) k0 bel lt0) (trodAll_cons_mk (shut_int Try.underlying3 w1) trodAll_mk0)), rfl, bel.frame _, fun h => by cases h⟩
theorem over : Rows.codeBestRow.holds Try.pinned (OpenSpec.ofChange Rows.codeBestSpec) :=
 OpenClaim.holds_of_wide 3 Try.f3 rfl rfl rfl rfl rfl rfl rfl ⟨rfl, rfl, rfl, rfl, rfl⟩ rfl rfl rfl rfl rfl (by kernel_rfl) Try.func3 (by kernel_rfl)
  (of_decide_eq_true (by kernel_rfl)) (by unfold Func.isWrapper; first | (rw [if_pos (by decide +kernel)]; kernel_rfl) | (rw [if_neg (by decide +kernel)]; exact ⟨rfl, rfl⟩))
  (fun os started H enc _ => lifted os started H enc)
theorem proved : Rows.CodeBestSaid := over
end Go.Proofs.Ytcpojohpmcnnhaa.codeBest
namespace Go.Proofs.Ytcpojohpmcnnhaa
theorem codeBest_holds : Rows.CodeBestSaid := codeBest.proved
end Go.Proofs.Ytcpojohpmcnnhaa
