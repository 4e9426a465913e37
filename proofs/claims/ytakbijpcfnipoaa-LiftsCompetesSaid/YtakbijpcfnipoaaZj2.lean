/- What the statements of this seat lean on: the functions that they reach, walked. -/
import Derived.OrdersHeld
import Derived.Still
import Derived.StillTail
import Derived.Below
import Derived.Shelf.Sort.Plain
import Derived.Ground.NamesProg
import Derived.Test.YtakbijpcfnipoaaZj1
set_option linter.unusedSimpArgs false
set_option linter.unusedVariables false

set_option linter.unusedVariables false
set_option linter.unusedSimpArgs false
namespace Go.Proofs.Ytakbijpcfnipoaa.R
open Go Go.RowKit
section
variable {P : Program} {ops : Array Oper} {Q : Exit → Act → World → Prop} {md : Region.Mode} {S : World → Prop} {T : Array Bool → World → Prop}
def YieldsS (P : Program) (ops : Array Oper) (S : World → Prop) (o : Oper) (v : Value) (a : Act) : Prop := ∀ w, S w → YieldsAt P ops w o v a
theorem YieldsS.of_same {o : Oper} {v : Value} {a a' : Act} (hy : YieldsS P ops S o v a) (he : execOp a'.eval o = execOp a.eval o)
    (hw : Region.wanted o (yielded ops a'.tmps) = Region.wanted o (yielded ops a.tmps)) : YieldsS P ops S o v a' := fun w hS => (hy w hS).of_same he hw
theorem YieldsS.wpOp {i : Nat} {o : Oper} {v : Value} {a : Act} (hi : ops[i]? = some o) (hy : YieldsS P ops S o v a)
    {K : Act → World → Prop} {w : World} (hS : S w) (h : K (a.put o.dst v) w) : wpOp P ops Q i K a w :=
  wpOp_of_stOp (K := fun a' => K a' w) (fun _ h => h) ((hy w hS).stOp hi h)
theorem wpOp_putS {j : Nat} {oi oj : Oper} {v : Value} (hj : ops[j]? = some oj) (hap : oi.apart ops oj = true)
    (hsi : ∀ cs b, oi.op ≠ .select cs b) (hsj : ∀ cs b, oj.op ≠ .select cs b)
    (hQ : ∀ c a w, Q (.panic c) (a.put oi.dst v) w → Q (.panic c) a w) {K : Act → World → Prop} {a : Act} {w : World}
    (hy : YieldsS P ops S oi v a) (h : wpOp P ops Q j K (a.put oi.dst v) w) :
    wpOp P ops Q j (fun a' w' => YieldsS P ops S oi v a' ∧ K (a'.put oi.dst v) w') a w := by
  obtain ⟨h1, h2, h3⟩ := Oper.apart_spec hap
  have keep : ∀ (a : Act), YieldsS P ops S oi v a → ∀ u, YieldsS P ops S oi v (a.put oj.dst u) := fun a hy u =>
    hy.of_same (execOp_put oi hsi a oj.dst u h3) (wanted_put oi a oj.dst u h3)
  have keepD : ∀ d, YieldsS P ops S oi v { a with defers := d :: a.defers } := fun d => hy.of_same rfl rfl
  unfold wpOp at *
  simp only [hj] at *
  rw [wanted_put oj a oi.dst v h1] at h
  split
  · rename_i hw
    simp only [hw, if_true] at h
    rcases h with h | ⟨hasks, hlets⟩
    case inr => exact .inr ⟨by unfold Oper.asks at *; rw [execOp_put oj hsj a oi.dst v h1] at hasks; exact hasks, hlets⟩
    refine .inl ?_
    unfold Oper.wp at *
    rw [execOp_put oj hsj a oi.dst v h1] at h
    generalize (execOp a.eval oj).run P w = r at *
    cases r with
    | ok n w' =>
      cases n <;> simp only [Oper.upon] at h ⊢
      case value u => exact ⟨keep a hy u, by rw [← Act.put_comm a v u h2]; exact h⟩
      case skip => exact ⟨keep a hy _, by rw [← Act.put_comm a v undef h2]; exact h⟩
      case defer d =>
        refine ⟨keep _ (keepD d) _, ?_⟩
        rw [← Act.put_comm _ v undef h2, ← Act.put_defers]
        exact h
      case enter f args =>
        refine Calls.mono h fun e w'' he => ?_
        cases e with
        | returned u => exact ⟨keep a hy u, by rw [← Act.put_comm a v u h2]; exact he⟩
        | panicked c => exact hQ _ _ _ he
        | outgrown => exact he
      case row row args => exact Rows.mono h fun u w'' he => ⟨keep a hy u, by rw [← Act.put_comm a v u h2]; exact he⟩
    | halt x w' =>
      cases x <;> simp only [Oper.upon] at h ⊢
      case panic u => exact hQ _ _ _ h
  · rename_i hw
    simp only [hw] at h
    exact ⟨keep a hy _, by rw [← Act.put_comm a v undef h2]; exact h⟩
def wpAnyT (P : Program) (md : Region.Mode) (ops : Array Oper) (Q : Exit → Act → World → Prop) (T : Array Bool → World → Prop) : Nat → Array Bool → Act → World → Prop
  | 0, listed, a, w => Region.ready md ops listed = [] ∧ Q .normal a w
  | fuel + 1, listed, a, w =>
    (Region.ready md ops listed = [] → Q .normal a w) ∧
    ∀ i ∈ Region.ready md ops listed, wpOp P ops Q i (fun a' w' => T (listed.setIfInBounds i true) w' ∧ wpAnyT P md ops Q T fuel (listed.setIfInBounds i true) a' w') a w
theorem wpAny_of_T : ∀ (fuel : Nat) (listed : Array Bool) (a : Act) (w : World), wpAnyT P md ops Q T fuel listed a w → wpAny P md ops Q fuel listed a w
  | 0, _, _, _, h => h
  | fuel + 1, _, _, _, h => ⟨h.1, fun i hi => wpOp_mono (fun a' w' h' => wpAny_of_T fuel _ a' w' h'.2) (h.2 i hi)⟩
theorem wpAnyT_first {i : Nat} {oi : Oper} {v : Value} {J : Array Bool → Prop} (hi : ops[i]? = some oi) (hsel : ∀ (j : Nat) (o : Oper) cs b, ops[j]? = some o → o.op ≠ .select cs b)
    (hQ : ∀ c a w, Q (.panic c) (a.put oi.dst v) w → Q (.panic c) a w)
    (hT : ∀ l w, T (l.setIfInBounds i true) w ↔ T l w) (hY : ∀ l w, J l → T l w → S w) (hJ : ∀ l j, J l → i ∈ Region.ready md ops l → j ∈ Region.ready md ops l → j ≠ i → J (l.setIfInBounds j true)) :
    ∀ (fuel : Nat) (listed : Array Bool) (a : Act) (w : World),
      (∀ j oj, ops[j]? = some oj → j ≠ i → listed.getD j true = false → (∀ e ∈ oj.after, Region.binds md e = true → e.on ≠ i) → oi.apart ops oj = true) →
      i ∈ Region.ready md ops listed → YieldsS P ops S oi v a → T listed w → J listed →
      wpAnyT P md ops Q T fuel (listed.setIfInBounds i true) (a.put oi.dst v) w → wpAnyT P md ops Q T (fuel + 1) listed a w := by
  intro fuel
  induction fuel with
  | zero =>
    intro listed a w _ hr hy hTl hl H
    refine ⟨fun h => (by rw [h] at hr; cases hr), fun j hj => ?_⟩
    by_cases hji : j = i
    · subst hji; exact hy.wpOp hi (hY _ _ hl hTl) ⟨(hT _ _).2 hTl, H⟩
    · have := ready_mono hj hji
      rw [H.1] at this
      cases this
  | succ fuel ih =>
    intro listed a w hfree hr hy hTl hl H
    refine ⟨fun h => (by rw [h] at hr; cases hr), fun j hj => ?_⟩
    by_cases hji : j = i
    · subst hji; exact hy.wpOp hi (hY _ _ hl hTl) ⟨(hT _ _).2 hTl, H⟩
    · have h1 := H.2 j (ready_mono hj hji)
      obtain ⟨hjun, oj, hoj, hall⟩ := mem_ready.1 hj
      have hnot : ∀ e ∈ oj.after, Region.binds md e = true → e.on ≠ i := fun e he hb heq => by
        have h1 := hall e he hb
        rw [heq, getD_both (mem_ready.1 hr).1] at h1
        cases h1
      have h2 := wpOp_putS hoj (hfree j oj hoj hji hjun hnot) (fun cs b => hsel i oi cs b hi) (fun cs b => hsel j oj cs b hoj) hQ hy h1
      have hfree' : ∀ k ok, ops[k]? = some ok → k ≠ i → (listed.setIfInBounds j true).getD k true = false →
          (∀ e ∈ ok.after, Region.binds md e = true → e.on ≠ i) → oi.apart ops ok = true := fun k ok hk hki hun hno => by
        refine hfree k ok hk hki ?_ hno
        by_cases hjk : j = k
        · subst hjk; exact hjun
        · rw [getD_set_ne true hjk] at hun; exact hun
      refine wpOp_mono (fun a' w' h3 => ?_) h2
      obtain ⟨hy', hT', h4⟩ := h3
      rw [Array.setIfInBounds_comm _ _ (Ne.symm hji)] at hT' h4
      have hT'' := (hT _ _).1 hT'
      exact ⟨hT'', ih (listed.setIfInBounds j true) a' w' hfree' (ready_mono hr (Ne.symm hji)) hy' hT'' (hJ _ _ hl hr hj hji) h4⟩
def Till (S S1 : World → Prop) (m0 m1 : Nat) (listed : Array Bool) (w : World) : Prop := (listed.getD m0 false = false → S w) ∧ (listed.getD m1 false = false → S1 w)
def seqC (md : Region.Mode) (ops : Array Oper) : List Nat → Array Bool → Bool
  | [], listed => (Region.ready md ops listed).isEmpty
  | c :: C, listed => decide (Region.ready md ops listed = [c]) && seqC md ops C (listed.setIfInBounds c true)
def waitsC (md : Region.Mode) (ops : Array Oper) (m i : Nat) : Bool := decide (ops.size ≤ m) || Region.waitsFor md ops m i
def floatC1 (md : Region.Mode) (ops : Array Oper) (m1 : Nat) (C : List Nat) : List Nat → Array Bool → Bool
  | [], listed => seqC md ops C listed
  | i :: F, listed => (Region.ready md ops listed).contains i && Region.free md ops listed i && waitsC md ops m1 i && !listed.getD m1 false && floatC1 md ops m1 C F (listed.setIfInBounds i true)
def floatC (md : Region.Mode) (ops : Array Oper) (m0 m1 : Nat) (F1 C : List Nat) : List Nat → Array Bool → Bool
  | [], listed => floatC1 md ops m1 C F1 listed
  | i :: F, listed => (Region.ready md ops listed).contains i && Region.free md ops listed i && waitsC md ops m0 i && waitsC md ops m1 i && !listed.getD m0 false && !listed.getD m1 false && floatC md ops m0 m1 F1 C F (listed.setIfInBounds i true)
def dstC (n : Nat) : List Oper → Bool
  | [] => true
  | o :: l => (match o.dst with | some d => decide (d < n) && l.all (fun o' => o'.dst != some d) | none => false) && dstC n l
def pickC (ops : Array Oper) (F : List Nat) : List Oper := F.filterMap (ops[·]?)
def wpSeq (P : Program) (ops : Array Oper) (Q : Exit → Act → World → Prop) (S S1 : World → Prop) : List (Oper × Bool × Bool) → Act → World → Prop
  | [], a, w => Q .normal a w
  | (o, s, s1) :: rest, a, w => if Region.wanted o (yielded ops a.tmps) then o.wp P a w (fun a' w' => ((s = true → S w') ∧ (s1 = true → S1 w')) ∧ wpSeq P ops Q S S1 rest a' w') Q ∨ (o.asks P a w ∧ LetsOut Q)
      else ((s = true → S w) ∧ (s1 = true → S1 w)) ∧ wpSeq P ops Q S S1 rest (a.put o.dst undef) w
section
variable {S1 : World → Prop}
theorem wpSeq_nil {a : Act} {w : World} (h : Q .normal a w) : wpSeq P ops Q S S1 [] a w := h
theorem wpSeq_step {o : Oper} {s s1 : Bool} {rest : List (Oper × Bool × Bool)} {a : Act} {w : World}
    (h : ∀ K : Act → World → Prop, (∀ a' w', ((s = true → S w') ∧ (s1 = true → S1 w')) → wpSeq P ops Q S S1 rest a' w' → K a' w') → if Region.wanted o (yielded ops a.tmps) then o.wp P a w K Q else K (a.put o.dst undef) w) : wpSeq P ops Q S S1 ((o, s, s1) :: rest) a w := by
  have := h (fun a' w' => ((s = true → S w') ∧ (s1 = true → S1 w')) ∧ wpSeq P ops Q S S1 rest a' w') (fun a' w' hS h => ⟨hS, h⟩)
  unfold wpSeq
  split
  · rename_i hw; rw [if_pos hw] at this; exact .inl this
  · rename_i hw; rw [if_neg hw] at this; exact this
theorem wpSeq_same {o : Oper} {rest : List (Oper × Bool × Bool)} {a : Act} {w : World}
    (h : ∀ K : Act → World → Prop, (∀ a' w', S w' → wpSeq P ops Q S S rest a' w' → K a' w') → if Region.wanted o (yielded ops a.tmps) then o.wp P a w K Q else K (a.put o.dst undef) w) : wpSeq P ops Q S S ((o, true, true) :: rest) a w :=
  wpSeq_step fun K hK => h K fun a' w' h1 => hK a' w' ⟨fun _ => h1, fun _ => h1⟩
theorem wpSeq_tail : ∀ (l : List (Oper × Bool × Bool)) {a : Act} {w : World}, l.all (fun p => !p.2.1 && !p.2.2) = true → wpList P ops Q (l.map (·.1)) a w → wpSeq P ops Q S S1 l a w
  | [], _, _, _, h => h
  | (o, s, s1) :: rest, a, w, hl, h => by
    simp only [List.all_cons, Bool.and_eq_true, Bool.not_eq_true'] at hl
    obtain ⟨⟨rfl, rfl⟩, hl⟩ := hl
    simp only [List.map_cons, wpList] at h
    unfold wpSeq
    split
    · rename_i hw
      rw [if_pos hw] at h
      rcases h with h | h
      · exact .inl (Oper.wp_mono (fun a' w' h' => ⟨⟨(fun h => by cases h), (fun h => by cases h)⟩, wpSeq_tail rest (by simpa using hl) h'⟩) h)
      · exact .inr h
    · rename_i hw
      rw [if_neg hw] at h
      exact ⟨⟨(fun h => by cases h), (fun h => by cases h)⟩, wpSeq_tail rest (by simpa using hl) h⟩
end
def chainOf (ops : Array Oper) (m0 m1 : Nat) : List Nat → Bool → Bool → List (Oper × Bool × Bool)
  | [], _, _ => []
  | c :: C, s, s1 => match ops[c]? with | some o => (o, s && c != m0, s1 && c != m1) :: chainOf ops m0 m1 C (s && c != m0) (s1 && c != m1) | none => []
theorem wpAnyT_seq {S1 : World → Prop} {m0 m1 : Nat} : ∀ (C : List Nat) (listed : Array Bool) (s s1 : Bool) (a : Act) (w : World), (s = false → listed.getD m0 false = true) → (s1 = false → listed.getD m1 false = true) → seqC md ops C listed = true → (∀ c ∈ C, c < ops.size) →
    listed.size = ops.size → wpSeq P ops Q S S1 (chainOf ops m0 m1 C s s1) a w → wpAnyT P md ops Q (Till S S1 m0 m1) C.length listed a w
  | [], listed, s, s1, a, w, _, _, hB, _, _, h => ⟨by simpa [seqC] using hB, h⟩
  | c :: C, listed, s, s1, a, w, hs, hs1, hB, hlt, hsz, h => by
    have hc := hlt c (List.mem_cons_self)
    have h0 : ops[c]? = some ops[c] := Array.getElem?_eq_getElem hc
    simp only [seqC, Bool.and_eq_true, decide_eq_true_eq] at hB
    simp only [chainOf, h0, wpSeq] at h
    refine ⟨fun h1 => (by rw [hB.1] at h1; cases h1), fun i hi => ?_⟩
    rw [hB.1] at hi
    have hik : i = c := by simpa using hi
    subst hik
    have set' : ∀ (s : Bool) (m : Nat), (s = false → listed.getD m false = true) → (s && i != m) = false → (listed.setIfInBounds i true).getD m false = true := by
      intro s m hs h2
      by_cases hm : i = m
      · subst hm; simp [hsz, hc]
      · have : s = false := by simpa [hm] using h2
        exact getD_set_true (hs this)
    have step : ∀ a' w', (((s && i != m0) = true → S w') ∧ ((s1 && i != m1) = true → S1 w')) ∧ wpSeq P ops Q S S1 (chainOf ops m0 m1 C (s && i != m0) (s1 && i != m1)) a' w' →
        Till S S1 m0 m1 (listed.setIfInBounds i true) w' ∧ wpAnyT P md ops Q (Till S S1 m0 m1) C.length (listed.setIfInBounds i true) a' w' := by
      intro a' w' ⟨⟨h1, h1'⟩, h2⟩
      refine ⟨⟨fun h3 => h1 ?_, fun h3 => h1' ?_⟩, wpAnyT_seq C _ _ _ a' w' (set' s m0 hs) (set' s1 m1 hs1) hB.2 (fun c hc => hlt c (List.mem_cons_of_mem _ hc)) (by simp [hsz]) h2⟩
      · cases h4 : (s && i != m0) with
        | true => rfl
        | false => rw [set' s m0 hs h4] at h3; cases h3
      · cases h4 : (s1 && i != m1) with
        | true => rfl
        | false => rw [set' s1 m1 hs1 h4] at h3; cases h3
    refine wpOp_mono step ?_
    unfold wpOp
    simp only [h0]
    split
    · rename_i hw; rw [if_pos hw] at h; exact h
    · rename_i hw; rw [if_neg hw] at h; exact h
theorem put_size (a : Act) (d : Option Tmp) (v : Value) : (a.put d v).tmps.size = a.tmps.size := by cases d <;> simp [Act.put]
theorem still_keeps {A : Act} {w : World} : ∀ (l : List Oper) (a : Act), wpStill P ops w (fun a' => a' = A) l a → ∀ d, (∀ o ∈ l, o.dst ≠ some d) → A.tmps[d]? = a.tmps[d]? := by
  intro l
  induction l with
  | nil => intro a h d _; rw [show a = A from h]
  | cons o l ih =>
    intro a h d hd
    have hput : ∀ v, (a.put o.dst v).tmps[d]? = a.tmps[d]? := by
      intro v
      cases hdo : o.dst with
      | none => rfl
      | some e =>
        have : e ≠ d := fun h => hd o List.mem_cons_self (by rw [hdo, h])
        simp [Act.put, Array.getElem?_setIfInBounds_ne this]
    have hnext : ∀ v, wpStill P ops w (fun a' => a' = A) l (a.put o.dst v) → A.tmps[d]? = a.tmps[d]? := fun v h2 => (ih _ h2 d (fun o ho => hd o (List.mem_cons_of_mem _ ho))).trans (hput v)
    simp only [wpStill] at h
    split at h
    · unfold Oper.still at h
      generalize (execOp a.eval o).run P w = r at h
      cases r with
      | ok n w' =>
        cases n <;> simp only [Oper.stillUpon] at h
        case value u => exact hnext u h.2
        case skip => exact hnext _ h.2
        case enter f args => obtain ⟨_, v, _, h2⟩ := h; exact hnext v h2
      | halt x w' => simp only [Oper.stillUpon] at h
    · exact hnext _ h
theorem yields_all {S : World → Prop} {A : Act} {w0 : World} (hS : S w0) {i : Nat} {o : Oper} {d : Tmp} {rest : List Oper} {a : Act} (h0 : ops[i]? = some o) (hdo : o.dst = some d) (hdlt : d < a.tmps.size) (hdn : ∀ o' ∈ rest, o'.dst ≠ some d)
    (hst : ∀ w', S w' → wpStill P ops w' (fun a' => a' = A) (o :: rest) a) : ∃ v, YieldsS P ops S o v a ∧ ∀ w', S w' → wpStill P ops w' (fun a' => a' = A) rest (a.put o.dst v) := by
  have hy : ∀ w', S w' → ∃ v, YieldsAt P ops w' o v a ∧ wpStill P ops w' (fun a' => a' = A) rest (a.put o.dst v) := fun w' hw' => by
    have h1 : stOp P ops w' i (wpStill P ops w' (fun a' => a' = A) rest) a := by unfold stOp; simp only [h0]; exact hst w' hw'
    exact yieldsAt_of_stOp h0 h1
  have hv : ∀ w' v, wpStill P ops w' (fun a' => a' = A) rest (a.put o.dst v) → A.tmps[d]? = some v := fun w' v h => by
    rw [still_keeps _ _ h d hdn, hdo]
    simp [Act.put, hdlt]
  obtain ⟨v, hyv, hnv⟩ := hy w0 hS
  have hA := hv w0 v hnv
  have hall : ∀ w', S w' → YieldsAt P ops w' o v a ∧ wpStill P ops w' (fun a' => a' = A) rest (a.put o.dst v) := fun w' hw' => by
    obtain ⟨v', h1, h2⟩ := hy w' hw'
    have := hv w' v' h2
    rw [hA] at this
    obtain rfl := Option.some.inj this
    exact ⟨h1, h2⟩
  exact ⟨v, fun w' hw' => (hall w' hw').1, fun w' hw' => (hall w' hw').2⟩
theorem waits_ne {m i : Nat} {l : Array Bool} (hw : waitsC md ops m i = true) (hr : i ∈ Region.ready md ops l) {j : Nat} (hj : j ∈ Region.ready md ops l) : j ≠ m := by
  intro e
  subst e
  obtain ⟨hun, o, ho, hall⟩ := mem_ready.1 hj
  simp only [waitsC, Bool.or_eq_true, decide_eq_true_eq] at hw
  rcases hw with hm | hm
  · have := (Array.getElem?_eq_some_iff.1 ho).1; omega
  · obtain ⟨o', ho', e, he, hb, hon⟩ := Region.waitsFor_spec hm
    have : o' = o := Option.some.inj (ho'.symm.trans ho)
    subst this
    have h2 := hall e he hb
    rw [hon, getD_both (mem_ready.1 hr).1] at h2
    cases h2
section
variable {S1 : World → Prop} {m0 m1 : Nat}
theorem wpAnyT_float1 (hsel : Region.noSelect ops = true) (hQ : ∀ c a (d : Tmp) v w, Q (.panic c) (a.put (some d) v) w → Q (.panic c) a w) {C : List Nat} {A : Act} {w0 : World} (hS : S w0) (hS1 : S1 w0) :
    ∀ (F : List Nat) (listed : Array Bool) (a : Act), floatC1 md ops m1 C F listed = true → (∀ c ∈ F, c < ops.size ∧ c ≠ m0) → listed.size = ops.size →
      dstC a.tmps.size (pickC ops F) = true → (∀ w', S1 w' → wpStill P ops w' (fun a' => a' = A) (pickC ops F) a) →
      (∀ listed', listed'.size = ops.size → seqC md ops C listed' = true → wpAnyT P md ops Q (Till S S1 m0 m1) C.length listed' A w0) →
      wpAnyT P md ops Q (Till S S1 m0 m1) (F.length + C.length) listed a w0
  | [], listed, a, hB, _, hsz, _, hst, hC => by
    have : a = A := hst w0 hS1
    subst this
    simpa using hC listed hsz hB
  | i :: F, listed, a, hB, hlt, hsz, hd, hst, hC => by
    obtain ⟨hc, hcm⟩ := hlt i (List.mem_cons_self)
    have h0 : ops[i]? = some ops[i] := Array.getElem?_eq_getElem hc
    have hp : pickC ops (i :: F) = ops[i] :: pickC ops F := by simp [pickC, h0]
    rw [hp] at hd
    simp only [hp] at hst
    simp only [floatC1, Bool.and_eq_true, Bool.not_eq_true'] at hB
    obtain ⟨⟨⟨⟨hr, hf⟩, hm⟩, hl⟩, hB'⟩ := hB
    obtain ⟨o, ho⟩ : ∃ o, ops[i] = o := ⟨_, rfl⟩
    rw [ho] at h0 hd
    simp only [ho] at hst
    have hri : i ∈ Region.ready md ops listed := by simpa using hr
    cases hdo : o.dst with
    | none => simp [dstC, hdo] at hd
    | some d =>
      simp only [dstC, hdo, Bool.and_eq_true, decide_eq_true_eq, List.all_eq_true] at hd
      obtain ⟨⟨hdlt, hdn⟩, hd'⟩ := hd
      obtain ⟨v, hy, hn⟩ := yields_all hS1 h0 hdo hdlt (fun o' ho' => by simpa using hdn o' ho') hst
      have him : i ≠ m1 := waits_ne hm hri hri
      rw [List.length_cons, show F.length + 1 + C.length = (F.length + C.length) + 1 by omega]
      exact wpAnyT_first (J := fun l => l.getD m1 false = false) h0 (Region.noSelect_spec hsel) (fun c a w => by rw [hdo]; exact hQ c a d v w)
        (fun l w => by unfold Till; rw [getD_set_ne false hcm, getD_set_ne false him]) (fun l w hJ hT => hT.2 hJ) (fun l j hJ hr hj _ => by rw [getD_set_ne false (waits_ne hm hr hj)]; exact hJ)
        (F.length + C.length) listed a w0 (Region.free_spec h0 hf) hri hy ⟨fun _ => hS, fun _ => hS1⟩ hl
        (wpAnyT_float1 hsel hQ hS hS1 F _ _ hB' (fun c hc => hlt c (List.mem_cons_of_mem _ hc)) (by simp [hsz]) (by rw [put_size]; exact hd') hn hC)
theorem wpAnyT_float (hsel : Region.noSelect ops = true) (hQ : ∀ c a (d : Tmp) v w, Q (.panic c) (a.put (some d) v) w → Q (.panic c) a w) {F1 C : List Nat} {A1 A : Act} {w0 : World} (hS : S w0) (hS1 : S1 w0)
    (hF1 : ∀ c ∈ F1, c < ops.size ∧ c ≠ m0) (hd1 : dstC A1.tmps.size (pickC ops F1) = true) (hst1 : ∀ w', S1 w' → wpStill P ops w' (fun a' => a' = A) (pickC ops F1) A1) :
    ∀ (F : List Nat) (listed : Array Bool) (a : Act), floatC md ops m0 m1 F1 C F listed = true → (∀ c ∈ F, c < ops.size) → listed.size = ops.size →
      dstC a.tmps.size (pickC ops F) = true → (∀ w', S w' ∧ S1 w' → wpStill P ops w' (fun a' => a' = A1) (pickC ops F) a) →
      (∀ listed', listed'.size = ops.size → seqC md ops C listed' = true → wpAnyT P md ops Q (Till S S1 m0 m1) C.length listed' A w0) →
      wpAnyT P md ops Q (Till S S1 m0 m1) (F.length + (F1.length + C.length)) listed a w0
  | [], listed, a, hB, _, hsz, _, hst, hC => by
    have : a = A1 := hst w0 ⟨hS, hS1⟩
    subst this
    simp only [List.length_nil, Nat.zero_add]
    exact wpAnyT_float1 hsel hQ hS hS1 F1 listed a hB hF1 hsz hd1 hst1 hC
  | i :: F, listed, a, hB, hlt, hsz, hd, hst, hC => by
    have hc := hlt i (List.mem_cons_self)
    have h0 : ops[i]? = some ops[i] := Array.getElem?_eq_getElem hc
    have hp : pickC ops (i :: F) = ops[i] :: pickC ops F := by simp [pickC, h0]
    rw [hp] at hd
    simp only [hp] at hst
    simp only [floatC, Bool.and_eq_true, Bool.not_eq_true'] at hB
    obtain ⟨⟨⟨⟨⟨⟨hr, hf⟩, hm0⟩, hm⟩, hl0⟩, hl⟩, hB'⟩ := hB
    obtain ⟨o, ho⟩ : ∃ o, ops[i] = o := ⟨_, rfl⟩
    rw [ho] at h0 hd
    simp only [ho] at hst
    have hri : i ∈ Region.ready md ops listed := by simpa using hr
    cases hdo : o.dst with
    | none => simp [dstC, hdo] at hd
    | some d =>
      simp only [dstC, hdo, Bool.and_eq_true, decide_eq_true_eq, List.all_eq_true] at hd
      obtain ⟨⟨hdlt, hdn⟩, hd'⟩ := hd
      obtain ⟨v, hy, hn⟩ := yields_all (S := fun w => S w ∧ S1 w) ⟨hS, hS1⟩ h0 hdo hdlt (fun o' ho' => by simpa using hdn o' ho') hst
      rw [List.length_cons, show F.length + 1 + (F1.length + C.length) = (F.length + (F1.length + C.length)) + 1 by omega]
      exact wpAnyT_first (J := fun l => l.getD m0 false = false ∧ l.getD m1 false = false) h0 (Region.noSelect_spec hsel) (fun c a w => by rw [hdo]; exact hQ c a d v w)
        (fun l w => by unfold Till; rw [getD_set_ne false (waits_ne hm0 hri hri), getD_set_ne false (waits_ne hm hri hri)]) (fun l w hJ hT => ⟨hT.1 hJ.1, hT.2 hJ.2⟩)
        (fun l j hJ hr hj _ => by rw [getD_set_ne false (waits_ne hm0 hr hj), getD_set_ne false (waits_ne hm hr hj)]; exact hJ)
        _ listed a w0 (Region.free_spec h0 hf) hri hy ⟨fun _ => hS, fun _ => hS1⟩ ⟨hl0, hl⟩
        (wpAnyT_float hsel hQ hS hS1 hF1 hd1 hst1 F _ _ hB' (fun c hc => hlt c (List.mem_cons_of_mem _ hc)) (by simp [hsz]) (by rw [put_size]; exact hd') hn hC)
end
def textB (ops : Array Oper) (F F1 C : List Nat) (m0 m1 : Nat) : Bool :=
  Region.noSelect ops && decide (F.length + (F1.length + C.length) = ops.size) && F.all (fun c => decide (c < ops.size)) && F1.all (fun c => decide (c < ops.size) && c != m0) && C.all (fun c => decide (c < ops.size)) && floatC .any ops m0 m1 F1 C F (Array.replicate ops.size false)
theorem wp_region_text2 {id : Nat} {a : Act} {w : World} (F F1 C : List Nat) (m0 m1 : Nat) (S S1 : World → Prop) (A1 A : Act) (hm : P.follows .mixedOrders = true) (hB : textB ops F F1 C m0 m1 = true)
    (hd : dstC a.tmps.size (pickC ops F) = true) (hd1 : dstC A1.tmps.size (pickC ops F1) = true) (hQ : ∀ c a (d : Tmp) v w, Q (.panic c) (a.put (some d) v) w → Q (.panic c) a w) (hS : S w.drew) (hS1 : S1 w.drew)
    (hF : ∀ w', S w' ∧ S1 w' → wpStill P ops w' (fun a' => a' = A1) (pickC ops F) a) (hF1 : ∀ w', S1 w' → wpStill P ops w' (fun a' => a' = A) (pickC ops F1) A1)
    (hC : wpSeq P ops Q S S1 (chainOf ops m0 m1 C true true) A w.drew) : (Code.region id ops true).wp P Q a w := by
  simp only [textB, Bool.and_eq_true, decide_eq_true_eq, List.all_eq_true, bne_iff_ne] at hB
  obtain ⟨⟨⟨⟨⟨hsel, hlen⟩, hFl⟩, hF1l⟩, hCl⟩, hfl⟩ := hB
  refine wp_region_any hm (wpAny_of_T (T := Till S S1 m0 m1) _ _ _ _ ?_)
  rw [← hlen]
  exact wpAnyT_float hsel hQ hS hS1 hF1l hd1 hF1 F _ a (by rw [hlen]; exact hfl) hFl (by simp [hlen]) hd hF
    (fun listed' hsz hseq => wpAnyT_seq C listed' true true A _ (fun h => by cases h) (fun h => by cases h) hseq hCl hsz hC)
theorem wp_region_text {id : Nat} {a : Act} {w : World} (F C : List Nat) (m0 : Nat) (S : World → Prop) (A : Act) (hm : P.follows .mixedOrders = true) (hB : textB ops F [] C m0 m0 = true)
    (hd : dstC a.tmps.size (pickC ops F) = true) (hQ : ∀ c a (d : Tmp) v w, Q (.panic c) (a.put (some d) v) w → Q (.panic c) a w) (hS : S w.drew)
    (hF : ∀ w', S w' → wpStill P ops w' (fun a' => a' = A) (pickC ops F) a)
    (hC : wpSeq P ops Q S S (chainOf ops m0 m0 C true true) A w.drew) : (Code.region id ops true).wp P Q a w :=
  wp_region_text2 F [] C m0 m0 S S A A hm hB hd rfl hQ hS hS (fun w' h => hF w' h.1) (fun _ _ => rfl) hC
end
section
variable {P : Program} {ops : Array Oper} {w : World} {Q : Act → Prop} {o : Oper} {rest : List Oper} {a : Act}
theorem wpStill_yes {j : Nat} {want : Bool} (hg : o.guard = some (j, want)) (hy : yielded ops a.tmps j = some want) (h : ∀ K : Act → Prop, (∀ a, wpStill P ops w Q rest a → K a) → o.still P a w K) : wpStill P ops w Q (o :: rest) a := by
  have : Region.wanted o (yielded ops a.tmps) = true := by simp [Region.wanted, hg, hy]
  unfold wpStill
  rw [this]
  exact h _ (fun _ h => h)
theorem wpStill_plain (hg : o.guard = none) (h : ∀ K : Act → Prop, (∀ a, wpStill P ops w Q rest a → K a) → o.still P a w K) : wpStill P ops w Q (o :: rest) a := by
  have : Region.wanted o (yielded ops a.tmps) = true := by simp [Region.wanted, hg]
  unfold wpStill
  rw [this]
  exact h _ (fun _ h => h)
end
structure Keeps (X : List Nat) (w w' : World) : Prop where
  os : w'.os = w.os
  tape : w'.tape = w.tape
  output : w'.output = w.output
  size : w.heap.size ≤ w'.heap.size
  block : ∀ k, k < w.heap.size → k ∉ X → w'.heap[k]? = w.heap[k]?
section
variable {X : List Nat} {w w1 w2 : World}
theorem Keeps.refl (X : List Nat) (w : World) : Keeps X w w := ⟨rfl, rfl, rfl, Nat.le_refl _, fun _ _ _ => rfl⟩
theorem Keeps.cell (h : Keeps X w w1) {a : Addr} {v : Value} (hc : w.cell? a = some v) (hx : a.block ∉ X) : w1.cell? a = some v := by
  rw [World.cell?_of_block (w := w) (h.block a.block (World.block_lt_of_cell? w a hc) hx), hc]
theorem Keeps.drew (h : Keeps X w w1) : Keeps X w w1.drew := ⟨h.os, h.tape, h.output, h.size, h.block⟩
theorem Keeps.trans {Y : List Nat} (h : Keeps X w w1) (h2 : Keeps Y w1 w2) (hY : ∀ k, k ∈ Y → k < w.heap.size → k ∈ X) : Keeps X w w2 :=
  ⟨h2.os.trans h.os, h2.tape.trans h.tape, h2.output.trans h.output, Nat.le_trans h.size h2.size, fun k hk hx => by rw [h2.block k (by have := h.size; omega) (fun hy => hx (hY k hy hk))]; exact h.block k hk hx⟩
theorem Keeps.of_below (X : List Nat) (h : Below w.heap.size w w1) : Keeps X w w1 := ⟨h.os, h.tape, h.output, h.size, fun k hk _ => h.block k hk⟩
theorem Keeps.mono {Y : List Nat} (h : Keeps X w w1) (hX : ∀ k, k ∈ X → k ∈ Y) : Keeps Y w w1 := ⟨h.os, h.tape, h.output, h.size, fun k hk hx => h.block k hk (fun h' => hx (hX k h'))⟩
theorem Keeps.alloc (h : Keeps X w w1) (o : Obj) : Keeps X w (w1.alloc o) :=
  h.trans (Keeps.of_below X ((Below.refl _ _).alloc (Nat.le_refl _) _)) (fun _ hk _ => hk)
theorem Keeps.below (h : Keeps X w w1) (hb : Below w1.heap.size w1 w2) : Keeps X w w2 := h.trans (Keeps.of_below X hb) (fun _ hk _ => hk)
theorem Keeps.grown (h : Keeps X w w1) {row : Option Nat} (hg : w1.grownBy w2 row) (hr : ∀ k, row = some k → k < w.heap.size → k ∈ X) : Keeps X w w2 :=
  ⟨hg.os.trans h.os, hg.tape.trans h.tape, hg.output.trans h.output, Nat.le_trans h.size hg.size, fun k hk hx => by rw [hg.block k (by have := h.size; omega) (fun e => hx (hr k e.symm hk))]; exact h.block k hk hx⟩
theorem Keeps.setCell (h : Keeps X w w1) {p : Addr} (hp : p.block < w.heap.size → p.block ∈ X) (u : Value) : Keeps X w (w1.setCell p u) := by
  refine ⟨h.os, h.tape, h.output, by rw [show (w1.setCell p u).heap.size = w1.heap.size by simp [World.setCell]]; exact h.size, fun k hk hx => ?_⟩
  have hne : k ≠ p.block := by rintro rfl; exact hx (hp hk)
  rw [Below.heap_setCell _ _ _ _ hne]
  exact h.block k hk hx
end
end Go.Proofs.Ytakbijpcfnipoaa.R

namespace Go.Proofs.Ytakbijpcfnipoaa.PA
open Go.RowKit Go.Proofs.YtakbijpcfnipoaaW.PrintWords Go.Proofs.YtakbijpcfnipoaaW.PrintLast Go.Proofs.YtakbijpcfnipoaaW.PrintMore
attribute [local go_sem] max2_int min2_int max_two min_two max_three min_three max_four min_four
set_option linter.unusedVariables false
set_option linter.unusedSimpArgs false
def slices_Index_int_int.l0 : Nat → List Int → Int → Int → Int → Option (Int)
 | 0, _, _, _, _ => none
 | k + 1, x0, x1, x7, x8 => if x8 < x7 then (if 0 ≤ x8 then (if x8 < (x0.length : Int) then (if x1 = (rd x0 x8) then (some x8) else (slices_Index_int_int.l0 k x0 x1 x7 (wrap64 (x8 + 1)))) else (none)) else (none)) else (some (-1))
def slices_Index_int_int.f (k : Nat) (l0 : List Int) (a1 : Int) : Option (Int) := slices_Index_int_int.l0 k l0 a1 (l0.length : Int) 0
set_option maxHeartbeats 8000000 in
set_option maxRecDepth 100000 in
theorem slices_Index_int_int.calls (k : Nat) (A0 : Option Addr) (c0 : Nat) (l0 : List Int) (a1 : Int) (r : Int) (w : World) (hr0 : Kd.C (Kd.int .i64) w A0 l0.length l0) (hc0 : l0.length ≤ c0) (h : slices_Index_int_int.f k l0 a1 = some r) :
  Calls Try.prog 77 #[.slice A0 l0.length c0, .int .i64 a1] w fun e w' => e = .returned (.int .i64 r) ∧ Drawn0 w w' := by
 have HR0 := Aside0.mk hr0
 have HC0 := Aside0.mk hc0
 clear hr0 hc0
 have H : (slices_Index_int_int.l0 k l0 a1 (l0.length : Int) 0) = some r := h
 clear h
 have H' := Aside0.mk H
 clear H
 go_enter Try.func77, Try.ntmps77
 go_wp2
 go_loopg [8] k (fun kq v8 w' => ∃ (x8_1 : Int), v8 = .int .i64 x8_1 ∧ Aside0 (slices_Index_int_int.l0 kq l0 a1 (l0.length : Int) x8_1 = some r) ∧ Aside0 (kq ≤ k) ∧ Drawn0 w w')
 case atStart => exact ⟨(0), (by first | rfl | (simp; done) | (simp [*]; done)), H', ⟨Nat.le_refl _⟩, by repeat (first | exact Drawn0.refl _ | apply Drawn0.step)⟩
 case round =>
  clear H'
  try clear p2
  obtain ⟨x8_1, rfl, HA, HK1, ⟨m1, rfl⟩⟩ := hrel
  cases gk with
  | zero => exact absurd HA.out (by simp [slices_Index_int_int.l0])
  | succ k1 =>
   have H := HA.out
   clear HA
   simp only [slices_Index_int_int.l0] at H
   by_cases c3 : x8_1 < (l0.length : Int)
   ·
    rw [if_pos c3] at H
    have c3b0 : decide (x8_1 < (l0.length : Int)) = true := decide_eq_true c3
    clear c3
    by_cases c4 : 0 ≤ x8_1
    ·
     rw [if_pos c4] at H
     have c4b0 : decide (0 ≤ x8_1) = true := decide_eq_true c4
     clear c4
     by_cases c5 : x8_1 < (l0.length : Int)
     ·
      rw [if_pos c5] at H
      have c5b0 : decide (x8_1 < (l0.length : Int)) = true := decide_eq_true c5
      clear c5
      by_cases c6 : a1 = (rd l0 x8_1)
      ·
       rw [if_pos c6] at H
       have c6b0 : (a1 == (rd l0 x8_1)) = true := beq_iff_eq.mpr c6
       have c6b1 : (a1 != (rd l0 x8_1)) = false := bne_eq_false_iff_eq.mpr c6
       clear c6
       obtain rfl := Option.some.inj H
       have p114 : 0 ≤ (x8_1 : Int) := of_decide_eq_true (by first | (with_reducible assumption) | assumption)
       have q114 : x8_1 < (l0.length : Int) := of_decide_eq_true (by first | (with_reducible assumption) | assumption)
       obtain ⟨ad114, e114, hx114_0⟩ := Kd.at_int HR0.out x8_1 p114 q114
       cases e114
       replace p114 := eq_true p114
       replace q114 := eq_true q114
       go_wp2
       go_ret
       exact ⟨by first | rfl | (simp; done) | (simp [*]; done), by repeat (first | exact Drawn0.refl _ | apply Drawn0.step)⟩
      ·
       rw [if_neg c6] at H
       have c6b0 : (a1 == (rd l0 x8_1)) = false := beq_eq_false_iff_ne.mpr c6
       have c6b1 : (a1 != (rd l0 x8_1)) = true := bne_iff_ne.mpr c6
       have H' := Aside0.mk H
       clear H
       have p114 : 0 ≤ (x8_1 : Int) := of_decide_eq_true (by first | (with_reducible assumption) | assumption)
       have q114 : x8_1 < (l0.length : Int) := of_decide_eq_true (by first | (with_reducible assumption) | assumption)
       obtain ⟨ad114, e114, hx114_0⟩ := Kd.at_int HR0.out x8_1 p114 q114
       cases e114
       replace p114 := eq_true p114
       replace q114 := eq_true q114
       go_wp2
       go_roundg k1
       case measure => have := HK1.out; omega
       case rel => exact ⟨(wrap64 (x8_1 + 1)), (by first | rfl | (simp; done) | (simp [*]; done)), H', ⟨by have := HK1.out; omega⟩, by repeat (first | exact Drawn0.refl _ | apply Drawn0.step)⟩
     ·
      rw [if_neg c5] at H
      exact absurd H (by simp)
    ·
     rw [if_neg c4] at H
     exact absurd H (by simp)
   ·
    rw [if_neg c3] at H
    have c3b0 : decide (x8_1 < (l0.length : Int)) = false := decide_eq_false c3
    clear c3
    obtain rfl := Option.some.inj H
    go_wp2
    go_ret
    exact ⟨by first | rfl | (simp; done) | (simp [*]; done), by repeat (first | exact Drawn0.refl _ | apply Drawn0.step)⟩
end Go.Proofs.Ytakbijpcfnipoaa.PA

namespace Go.Proofs.Ytakbijpcfnipoaa.PA
open Go.RowKit Go.Proofs.YtakbijpcfnipoaaW.PrintWords Go.Proofs.YtakbijpcfnipoaaW.PrintLast Go.Proofs.YtakbijpcfnipoaaW.PrintMore
attribute [local go_sem] max2_int min2_int max_two min_two max_three min_three max_four min_four
set_option linter.unusedVariables false
set_option linter.unusedSimpArgs false
def slices_Contains_int_int.f (k : Nat) (l0 : List Int) (a1 : Int) : Option (Bool) := (slices_Index_int_int.f k l0 a1).bind fun t115 => (some (decide (t115 ≥ 0)))
set_option maxHeartbeats 8000000 in
set_option maxRecDepth 100000 in
theorem slices_Contains_int_int.calls (k : Nat) (A0 : Option Addr) (c0 : Nat) (l0 : List Int) (a1 : Int) (r : Bool) (w : World) (hr0 : Kd.C (Kd.int .i64) w A0 l0.length l0) (hc0 : l0.length ≤ c0) (h : slices_Contains_int_int.f k l0 a1 = some r) :
  Calls Try.prog 67 #[.slice A0 l0.length c0, .int .i64 a1] w fun e w' => e = .returned (.bool r) ∧ Drawn0 w w' := by
 have HR0 := Aside0.mk hr0
 have HC0 := Aside0.mk hc0
 clear hr0 hc0
 have H : ((slices_Index_int_int.f k l0 a1).bind fun t115 => (some (decide (t115 ≥ 0)))) = some r := h
 clear h
 replace H := Option.bind_eq_some_iff.mp H
 obtain ⟨t115, A30, H⟩ := H
 replace H : (some (decide (t115 ≥ 0))) = some r := H
 have A3 := Aside0.mk A30
 clear A30
 obtain rfl := Option.some.inj H
 go_enter Try.func67, Try.ntmps67
 go_wp2_with (first | ((with_reducible refine gate_callee (f := 77) rfl ?_); refine goesL_ (some 7) rfl rfl Try.func77 (by kernel_rfl) rfl #[.slice A0 l0.length c0, .int .i64 a1] rfl (by (try simp only [List.map_toArray, List.map_cons, List.map_nil]); first | done | rfl | (simp only [List.length_drop, List.length_take]; rfl)) ?_; (with_reducible refine (slices_Index_int_int.calls k _ _ l0 a1 t115 _ ?side1 ?side2 A3.out).mono ?_); (case side1 => repeat (first | exact HR0.out | (with_reducible refine Kd.C_alloc ?_ _) | (with_reducible refine Kd.C_drewN ?_ _) | (with_reducible refine Kd.C_drew ?_))); (case side2 => exact HC0.out); rintro e w' ⟨rfl, ⟨nd, rfl⟩⟩; refine ⟨_, rfl, ?_⟩))
 go_ret
 exact ⟨by first | rfl | (simp; done) | (simp [*]; done), by repeat (first | exact Drawn0.refl _ | apply Drawn0.step)⟩
end Go.Proofs.Ytakbijpcfnipoaa.PA

namespace Go.Proofs.Ytakbijpcfnipoaa.PA
open Go.RowKit Go.Proofs.YtakbijpcfnipoaaW.PrintWords Go.Proofs.YtakbijpcfnipoaaW.PrintLast Go.Proofs.YtakbijpcfnipoaaW.PrintMore
attribute [local go_sem] max2_int min2_int max_two min_two max_three min_three max_four min_four
set_option linter.unusedVariables false
set_option linter.unusedSimpArgs false
def lifts_total.l0 : Nat → Int → List Int → Int → Int → Option (Int)
 | 0, _, _, _, _ => none
 | k + 1, x3, x6, x7, x8 => if x8 < x7 then (if 0 ≤ x8 then (if x8 < (x6.length : Int) then (lifts_total.l0 k (wrap64 (x3 + (rd x6 x8))) x6 x7 (wrap64 (x8 + 1))) else (none)) else (none)) else (some x3)
def lifts_total.f (k : Nat) (l0 : List Int) : Option (Int) := lifts_total.l0 k 0 l0 (l0.length : Int) 0
set_option maxHeartbeats 8000000 in
set_option maxRecDepth 100000 in
theorem lifts_total.calls (k : Nat) (A0 : Option Addr) (c0 : Nat) (l0 : List Int) (r : Int) (w : World) (hr0 : Kd.C (Kd.int .i64) w A0 l0.length l0) (hc0 : l0.length ≤ c0) (h : lifts_total.f k l0 = some r) :
  Calls Try.prog 47 #[.slice A0 l0.length c0] w fun e w' => e = .returned (.int .i64 r) ∧ Drawn0 w w' := by
 have HR0 := Aside0.mk hr0
 have HC0 := Aside0.mk hc0
 clear hr0 hc0
 have H : (lifts_total.l0 k 0 l0 (l0.length : Int) 0) = some r := h
 clear h
 have H' := Aside0.mk H
 clear H
 go_enter Try.func47, Try.ntmps47
 go_wp2
 go_loopg [3, 8] k (fun kq v3 v8 w' => ∃ (x3_1 : Int) (x8_1 : Int), v3 = .int .i64 x3_1 ∧ v8 = .int .i64 x8_1 ∧ Aside0 (lifts_total.l0 kq x3_1 l0 (l0.length : Int) x8_1 = some r) ∧ Aside0 (kq ≤ k) ∧ Drawn0 w w')
 case atStart => exact ⟨(0), (0), (by first | rfl | (simp; done) | (simp [*]; done)), (by first | rfl | (simp; done) | (simp [*]; done)), H', ⟨Nat.le_refl _⟩, by repeat (first | exact Drawn0.refl _ | apply Drawn0.step)⟩
 case round =>
  clear H'
  obtain ⟨x3_1, x8_1, rfl, rfl, HA, HK1, ⟨m1, rfl⟩⟩ := hrel
  cases gk with
  | zero => exact absurd HA.out (by simp [lifts_total.l0])
  | succ k1 =>
   have H := HA.out
   clear HA
   simp only [lifts_total.l0] at H
   by_cases c2 : x8_1 < (l0.length : Int)
   ·
    rw [if_pos c2] at H
    have c2b0 : decide (x8_1 < (l0.length : Int)) = true := decide_eq_true c2
    clear c2
    by_cases c3 : 0 ≤ x8_1
    ·
     rw [if_pos c3] at H
     have c3b0 : decide (0 ≤ x8_1) = true := decide_eq_true c3
     clear c3
     by_cases c4 : x8_1 < (l0.length : Int)
     ·
      rw [if_pos c4] at H
      have c4b0 : decide (x8_1 < (l0.length : Int)) = true := decide_eq_true c4
      clear c4
      have H' := Aside0.mk H
      clear H
      have p116 : 0 ≤ (x8_1 : Int) := of_decide_eq_true (by first | (with_reducible assumption) | assumption)
      have q116 : x8_1 < (l0.length : Int) := of_decide_eq_true (by first | (with_reducible assumption) | assumption)
      obtain ⟨ad116, e116, hx116_0⟩ := Kd.at_int HR0.out x8_1 p116 q116
      cases e116
      replace p116 := eq_true p116
      replace q116 := eq_true q116
      go_wp2
      go_roundg k1
      case measure => have := HK1.out; omega
      case rel => exact ⟨(wrap64 (x3_1 + (rd l0 x8_1))), (wrap64 (x8_1 + 1)), (by first | rfl | (simp; done) | (simp [*]; done)), (by first | rfl | (simp; done) | (simp [*]; done)), H', ⟨by have := HK1.out; omega⟩, by repeat (first | exact Drawn0.refl _ | apply Drawn0.step)⟩
     ·
      rw [if_neg c4] at H
      exact absurd H (by simp)
    ·
     rw [if_neg c3] at H
     exact absurd H (by simp)
   ·
    rw [if_neg c2] at H
    have c2b0 : decide (x8_1 < (l0.length : Int)) = false := decide_eq_false c2
    clear c2
    obtain rfl := Option.some.inj H
    go_wp2
    go_ret
    exact ⟨by first | rfl | (simp; done) | (simp [*]; done), by repeat (first | exact Drawn0.refl _ | apply Drawn0.step)⟩
end Go.Proofs.Ytakbijpcfnipoaa.PA

namespace Go.Proofs.Ytakbijpcfnipoaa.PA
open Go.RowKit Go.Proofs.YtakbijpcfnipoaaW.PrintWords Go.Proofs.YtakbijpcfnipoaaW.PrintLast Go.Proofs.YtakbijpcfnipoaaW.PrintMore
attribute [local go_sem] max2_int min2_int max_two min_two max_three min_three max_four min_four
set_option linter.unusedVariables false
set_option linter.unusedSimpArgs false
def lifts_away.f (a0 : Int) (a1 : Int) : Option (Int) := some (mx (wrap64 (a0 - a1)) (wrap64 (a1 - a0)))
set_option maxHeartbeats 8000000 in
set_option maxRecDepth 100000 in
theorem lifts_away.calls (a0 : Int) (a1 : Int) (r : Int) (w : World) (h : lifts_away.f a0 a1 = some r) :
  Calls Try.prog 68 #[.int .i64 a0, .int .i64 a1] w fun e w' => e = .returned (.int .i64 r) ∧ Below w.heap.size w w' := by
 have HB := Aside0.mk (Below.refl w.heap.size w)
 have H : (some (mx (wrap64 (a0 - a1)) (wrap64 (a1 - a0)))) = some r := h
 clear h
 obtain ⟨ji3, hji3⟩ : ∃ j_ : Int, (mx (wrap64 (a0 - a1)) (wrap64 (a1 - a0))) = j_ := ⟨_, rfl⟩
 replace H : (some ji3) = some r := by first | (rw [hji3] at H; exact H) | (simp only [hji3] at H ⊢; exact H)
 have hji3_ : (if (wrap64 (a0 - a1)) < (wrap64 (a1 - a0)) then (wrap64 (a1 - a0)) else (wrap64 (a0 - a1))) = ji3 := hji3
 obtain rfl := Option.some.inj H
 go_enter Try.func68, Try.ntmps68
 go_wp2
 go_ret
 exact ⟨by first | rfl | (simp [errW_none, errW_some] <;> rfl) | (simp only [← hji3]; first | rfl | (simp [errW_none, errW_some] <;> rfl)) | (simp [*, errW_none, errW_some] <;> rfl), by repeat (first | (with_reducible first | exact HB.out | apply below_alloc | apply pw_below_drewN | apply below_drew1) | exact HB.out)⟩
end Go.Proofs.Ytakbijpcfnipoaa.PA

set_option linter.unusedVariables false
set_option linter.unusedSimpArgs false
namespace Go.Proofs.Ytakbijpcfnipoaa.A
open Go.RowKit Go.Proofs.YtakbijpcfnipoaaW.PrintWords Go.Proofs.YtakbijpcfnipoaaW.PrintLast Go.Proofs.YtakbijpcfnipoaaW.PrintMore
open Go.Proofs.Ytakbijpcfnipoaa.PA Go.Proofs.Ytakbijpcfnipoaa.Lf
theorem rdI (l : List Int) (i : Nat) : rd l (i : Int) = l.getD i 0 := by unfold rd; rw [Int.toNat_natCast]
theorem wrapN (i : Nat) (h : i < 1000000) : wrap64 ((i : Int) + 1) = ((i + 1 : Nat) : Int) := by unfold wrap64; omega
abbrev Fl (x : Int) : Prop := 0 ≤ x ∧ x ≤ 30
theorem away_c (a b : Int) (ha : Fl a) (hb : Fl b) (w : World) : Calls Try.prog 68 #[.int .i64 a, .int .i64 b] w fun e w' => e = .returned (.int .i64 (ab a b)) ∧ Below w.heap.size w w' := by
  refine lifts_away.calls a b (ab a b) w ?_
  unfold lifts_away.f ab mx
  have e1 : wrap64 (a - b) = a - b := by unfold wrap64; omega
  have e2 : wrap64 (b - a) = b - a := by unfold wrap64; omega
  rw [e1, e2]
  split
  · congr 1; omega
  · congr 1; omega
def sum : List Int → Int
  | [] => 0
  | x :: l => x + sum l
theorem sum_append : ∀ (l m : List Int), sum (l ++ m) = sum l + sum m
  | [], m => by simp [sum]
  | x :: l, m => by
    show x + sum (l ++ m) = x + sum l + sum m
    rw [sum_append l m]; omega
def Small (l : List Int) : Prop := ∀ x ∈ l, 0 ≤ x ∧ x ≤ 1000000
theorem sum_bd : ∀ {l : List Int}, Small l → 0 ≤ sum l ∧ sum l ≤ 1000000 * l.length
  | [], _ => by simp [sum]
  | x :: l, h => by
    have h1 := sum_bd (l := l) (fun y hy => h y (List.mem_cons_of_mem _ hy))
    have h2 := h x List.mem_cons_self
    show 0 ≤ x + sum l ∧ x + sum l ≤ 1000000 * ((l.length + 1 : Nat) : Int)
    omega
theorem total_ev {l : List Int} (hs : Small l) (hl : l.length ≤ 1000) : Ev (fun k => lifts_total.f k l) (sum l) := by
  have key : ∀ d i, i + d = l.length → Ev (fun k => lifts_total.l0 k (sum (l.take i)) l (l.length : Int) (i : Int)) (sum l) := by
    intro d
    induction d with
    | zero =>
      intro i hi
      obtain rfl : i = l.length := by omega
      refine Ev.step (f := fun _ => some (sum l)) (fun k => ?_) (Ev.now _)
      rw [lifts_total.l0, if_neg (by omega), List.take_length]
    | succ d ih =>
      intro i hi
      have hil : i < l.length := by omega
      have h1 := ih (i + 1) (by omega)
      have e : sum (l.take (i + 1)) = sum (l.take i) + l.getD i 0 := by
        rw [List.take_add_one, List.getElem?_eq_getElem hil, sum_append, List.getD_eq_getElem?_getD, List.getElem?_eq_getElem hil]
        simp [sum]
      have hb := sum_bd (l := l.take (i + 1)) (fun y hy => hs y (List.mem_of_mem_take hy))
      have hlt : (l.take (i + 1)).length ≤ 1000 := by rw [List.length_take]; omega
      rw [e] at h1 hb
      refine Ev.step (fun k => ?_) h1
      rw [lifts_total.l0, if_pos (by omega), if_pos (by omega), if_pos (by omega), rdI, wrapN i (by omega)]
      have : wrap64 (sum (l.take i) + l.getD i 0) = sum (l.take i) + l.getD i 0 := by unfold wrap64; omega
      rw [this]
  exact Ev.congr (fun _ => rfl) (key l.length 0 (by omega))
theorem total_c (A : Option Addr) (c : Nat) (l : List Int) (w : World) (hs : Small l) (hl : l.length ≤ 1000) (hr : Kd.C (Kd.int .i64) w A l.length l) (hc : l.length ≤ c) :
    Calls Try.prog 47 #[.slice A l.length c] w fun e w' => e = .returned (.int .i64 (sum l)) ∧ Below w.heap.size w w' := by
  obtain ⟨k, hk⟩ := (total_ev hs hl).rounds
  exact (lifts_total.calls k A c l (sum l) w hr hc hk).mono fun e w' ⟨he, nd, hw⟩ => ⟨he, by rw [hw]; exact ⟨rfl, rfl, rfl, Nat.le_refl _, fun _ _ => rfl⟩⟩
end Go.Proofs.Ytakbijpcfnipoaa.A

set_option linter.unusedVariables false
set_option linter.unusedSimpArgs false
namespace Go.Proofs.Ytakbijpcfnipoaa.A
open Go.RowKit Go.Proofs.YtakbijpcfnipoaaW.PrintWords Go.Proofs.YtakbijpcfnipoaaW.PrintLast Go.Proofs.YtakbijpcfnipoaaW.PrintMore
open Go.Proofs.Ytakbijpcfnipoaa.PA Go.Proofs.Ytakbijpcfnipoaa.Lf
abbrev sv (a b c : Int) : Value := .agg #[.int .i64 a, .int .i64 b, .int .i64 c]
abbrev hv (k a b c : Int) (v : Value) : Value := .agg #[.int .i64 k, .int .i64 a, .int .i64 b, .int .i64 c, v]
abbrev dL (a0 a1 a2 b0 b1 b2 : Int) : List Int := [ab a0 b0, ab a1 b1, ab a2 b2]
theorem below_new (w W : World) (h : Below w.heap.size w W) (o : Obj) : Below w.heap.size w (W.alloc o) := h.alloc h.size o
set_option maxHeartbeats 8000000 in
set_option maxRecDepth 100000 in
theorem dist3_c (k : Nat) (hk1 : 1 ≤ k) (hk3 : k ≤ 3) (s0 s1 s2 : Int) (A : Option Addr) (n c : Nat) (a0 a1 a2 b0 b1 b2 : Int) (fa0 : Fl a0) (fa1 : Fl a1) (fa2 : Fl a2) (fb0 : Fl b0) (fb1 : Fl b1) (fb2 : Fl b2) (w : World) :
    Calls Try.prog 48 #[hv k s0 s1 s2 (.slice A n c), sv a0 a1 a2, sv b0 b1 b2] w fun e w' => e = .returned (.int .i64 (sum ((dL a0 a1 a2 b0 b1 b2).take k))) ∧ Below w.heap.size w w' := by
  obtain ⟨d0, hd0⟩ : ∃ d, ab a0 b0 = d := ⟨_, rfl⟩
  obtain ⟨d1, hd1⟩ : ∃ d, ab a1 b1 = d := ⟨_, rfl⟩
  obtain ⟨d2, hd2⟩ : ∃ d, ab a2 b2 = d := ⟨_, rfl⟩
  have HA0 : Hid (∀ W, Calls Try.prog 68 #[.int .i64 a0, .int .i64 b0] W fun e w' => e = .returned (.int .i64 d0) ∧ Below W.heap.size W w') := Lib.hid (fun W => by rw [← hd0]; exact away_c a0 b0 fa0 fb0 W)
  have HA1 : Hid (∀ W, Calls Try.prog 68 #[.int .i64 a1, .int .i64 b1] W fun e w' => e = .returned (.int .i64 d1) ∧ Below W.heap.size W w') := Lib.hid (fun W => by rw [← hd1]; exact away_c a1 b1 fa1 fb1 W)
  have HA2 : Hid (∀ W, Calls Try.prog 68 #[.int .i64 a2, .int .i64 b2] W fun e w' => e = .returned (.int .i64 d2) ∧ Below W.heap.size W w') := Lib.hid (fun W => by rw [← hd2]; exact away_c a2 b2 fa2 fb2 W)
  obtain ⟨L, hL⟩ : ∃ L, dL a0 a1 a2 b0 b1 b2 = L := ⟨_, rfl⟩
  have HL0 : Hid (L[0]? = some d0) := Lib.hid (by rw [← hL, ← hd0]; rfl)
  have HL1 : Hid (L[1]? = some d1) := Lib.hid (by rw [← hL, ← hd1]; rfl)
  have HL2 : Hid (L[2]? = some d2) := Lib.hid (by rw [← hL, ← hd2]; rfl)
  have HSM : Hid (Small L) := by
    refine Lib.hid ?_
    rw [← hL]
    intro x hx
    simp only [dL, List.mem_cons, List.not_mem_nil, or_false] at hx
    unfold ab at hx
    omega
  have HLL : Hid (L.length = 3) := Lib.hid (by rw [← hL]; rfl)
  rw [hL]
  clear hL hd0 hd1 hd2
  obtain ⟨B, hB⟩ : ∃ B, w.heap.size = B := ⟨_, rfl⟩
  go_enter Try.func48, Try.ntmps48
  go_upto_region 2 with fail
  have hB1 : Below w.heap.size w (((w.alloc (Obj.cells #[Value.int IntKind.i64 ↑k, Value.int IntKind.i64 s0, Value.int IntKind.i64 s1, Value.int IntKind.i64 s2, Value.slice A n c] 54)).alloc (Obj.cells #[Value.int IntKind.i64 a0, Value.int IntKind.i64 a1, Value.int IntKind.i64 a2] 52)).alloc (Obj.cells #[Value.int IntKind.i64 b0, Value.int IntKind.i64 b1, Value.int IntKind.i64 b2] 52)) :=
    below_new _ _ (below_new _ _ (below_new _ _ (Below.refl _ _) _) _) _
  have hz1 : (((w.alloc (Obj.cells #[Value.int IntKind.i64 ↑k, Value.int IntKind.i64 s0, Value.int IntKind.i64 s1, Value.int IntKind.i64 s2, Value.slice A n c] 54)).alloc (Obj.cells #[Value.int IntKind.i64 a0, Value.int IntKind.i64 a1, Value.int IntKind.i64 a2] 52)).alloc (Obj.cells #[Value.int IntKind.i64 b0, Value.int IntKind.i64 b1, Value.int IntKind.i64 b2] 52)).heap.size = B + 3 := by simp [hB]
  have hk0 : (((w.alloc (Obj.cells #[Value.int IntKind.i64 ↑k, Value.int IntKind.i64 s0, Value.int IntKind.i64 s1, Value.int IntKind.i64 s2, Value.slice A n c] 54)).alloc (Obj.cells #[Value.int IntKind.i64 a0, Value.int IntKind.i64 a1, Value.int IntKind.i64 a2] 52)).alloc (Obj.cells #[Value.int IntKind.i64 b0, Value.int IntKind.i64 b1, Value.int IntKind.i64 b2] 52)).cell? ⟨B, 0, none⟩ = some (.int .i64 (k : Int)) := by rw [← hB]; simp [go_sem]
  have ha0 : (((w.alloc (Obj.cells #[Value.int IntKind.i64 ↑k, Value.int IntKind.i64 s0, Value.int IntKind.i64 s1, Value.int IntKind.i64 s2, Value.slice A n c] 54)).alloc (Obj.cells #[Value.int IntKind.i64 a0, Value.int IntKind.i64 a1, Value.int IntKind.i64 a2] 52)).alloc (Obj.cells #[Value.int IntKind.i64 b0, Value.int IntKind.i64 b1, Value.int IntKind.i64 b2] 52)).cell? ⟨B + 1, 0, none⟩ = some (.int .i64 a0) := by rw [← hB]; simp [go_sem]
  have ha1 : (((w.alloc (Obj.cells #[Value.int IntKind.i64 ↑k, Value.int IntKind.i64 s0, Value.int IntKind.i64 s1, Value.int IntKind.i64 s2, Value.slice A n c] 54)).alloc (Obj.cells #[Value.int IntKind.i64 a0, Value.int IntKind.i64 a1, Value.int IntKind.i64 a2] 52)).alloc (Obj.cells #[Value.int IntKind.i64 b0, Value.int IntKind.i64 b1, Value.int IntKind.i64 b2] 52)).cell? ⟨B + 1, 1, none⟩ = some (.int .i64 a1) := by rw [← hB]; simp [go_sem]
  have ha2 : (((w.alloc (Obj.cells #[Value.int IntKind.i64 ↑k, Value.int IntKind.i64 s0, Value.int IntKind.i64 s1, Value.int IntKind.i64 s2, Value.slice A n c] 54)).alloc (Obj.cells #[Value.int IntKind.i64 a0, Value.int IntKind.i64 a1, Value.int IntKind.i64 a2] 52)).alloc (Obj.cells #[Value.int IntKind.i64 b0, Value.int IntKind.i64 b1, Value.int IntKind.i64 b2] 52)).cell? ⟨B + 1, 2, none⟩ = some (.int .i64 a2) := by rw [← hB]; simp [go_sem]
  have hb0 : (((w.alloc (Obj.cells #[Value.int IntKind.i64 ↑k, Value.int IntKind.i64 s0, Value.int IntKind.i64 s1, Value.int IntKind.i64 s2, Value.slice A n c] 54)).alloc (Obj.cells #[Value.int IntKind.i64 a0, Value.int IntKind.i64 a1, Value.int IntKind.i64 a2] 52)).alloc (Obj.cells #[Value.int IntKind.i64 b0, Value.int IntKind.i64 b1, Value.int IntKind.i64 b2] 52)).cell? ⟨B + 1 + 1, 0, none⟩ = some (.int .i64 b0) := by rw [← hB]; simp [go_sem]
  have hb1 : (((w.alloc (Obj.cells #[Value.int IntKind.i64 ↑k, Value.int IntKind.i64 s0, Value.int IntKind.i64 s1, Value.int IntKind.i64 s2, Value.slice A n c] 54)).alloc (Obj.cells #[Value.int IntKind.i64 a0, Value.int IntKind.i64 a1, Value.int IntKind.i64 a2] 52)).alloc (Obj.cells #[Value.int IntKind.i64 b0, Value.int IntKind.i64 b1, Value.int IntKind.i64 b2] 52)).cell? ⟨B + 1 + 1, 1, none⟩ = some (.int .i64 b1) := by rw [← hB]; simp [go_sem]
  have hb2 : (((w.alloc (Obj.cells #[Value.int IntKind.i64 ↑k, Value.int IntKind.i64 s0, Value.int IntKind.i64 s1, Value.int IntKind.i64 s2, Value.slice A n c] 54)).alloc (Obj.cells #[Value.int IntKind.i64 a0, Value.int IntKind.i64 a1, Value.int IntKind.i64 a2] 52)).alloc (Obj.cells #[Value.int IntKind.i64 b0, Value.int IntKind.i64 b1, Value.int IntKind.i64 b2] 52)).cell? ⟨B + 1 + 1, 2, none⟩ = some (.int .i64 b2) := by rw [← hB]; simp [go_sem]
  generalize (((w.alloc (Obj.cells #[Value.int IntKind.i64 ↑k, Value.int IntKind.i64 s0, Value.int IntKind.i64 s1, Value.int IntKind.i64 s2, Value.slice A n c] 54)).alloc (Obj.cells #[Value.int IntKind.i64 a0, Value.int IntKind.i64 a1, Value.int IntKind.i64 a2] 52)).alloc (Obj.cells #[Value.int IntKind.i64 b0, Value.int IntKind.i64 b1, Value.int IntKind.i64 b2] 52)) = W1 at *
  have HC : Hid (∀ w', Below (B + 3) W1 w' → w'.cell? ⟨B, 0, none⟩ = some (.int .i64 (k : Int)) ∧ w'.cell? ⟨B + 1, 0, none⟩ = some (.int .i64 a0) ∧ w'.cell? ⟨B + 1, 1, none⟩ = some (.int .i64 a1) ∧ w'.cell? ⟨B + 1, 2, none⟩ = some (.int .i64 a2) ∧ w'.cell? ⟨B + 1 + 1, 0, none⟩ = some (.int .i64 b0) ∧ w'.cell? ⟨B + 1 + 1, 1, none⟩ = some (.int .i64 b1) ∧ w'.cell? ⟨B + 1 + 1, 2, none⟩ = some (.int .i64 b2)) :=
    Lib.hid (fun w' h => ⟨(h.cell (by show B < B + 3; omega)).trans hk0, (h.cell (by show B + 1 < B + 3; omega)).trans ha0, (h.cell (by show B + 1 < B + 3; omega)).trans ha1, (h.cell (by show B + 1 < B + 3; omega)).trans ha2, (h.cell (by show B + 1 + 1 < B + 3; omega)).trans hb0, (h.cell (by show B + 1 + 1 < B + 3; omega)).trans hb1, (h.cell (by show B + 1 + 1 < B + 3; omega)).trans hb2⟩)
  have HB1 := Lib.hid hB1
  have HBW := Lib.hid hB
  clear ha0 ha1 ha2 hb0 hb1 hb2 hB1 hB
  go_wp2_with fail
  clear hk0
  go_loopw [7, 8, 11] (fun v7 _ v11 wr => ∃ i : Nat, v11 = .int .i64 (i : Int) ∧ i ≤ k ∧ B + 3 ≤ wr.heap.size ∧ Hid (Kd.R (Kd.int .i64) 3 wr (B + 3) (fun _ => True) v7 (L.take i)) ∧ Hid (Below (B + 3) W1 wr)) (fun _ _ v11 _ => k - (intOf v11).toNat)
  case atStart => exact ⟨0, rfl, Nat.zero_le _, Nat.le_of_eq hz1.symm, Lib.hid (Kd.R_nil _ _ _ _ _), Lib.hid (Below.refl _ _)⟩
  case round =>
    rename World => wr
    obtain ⟨i, rfl, hi, hsz, HR, HB⟩ := hrel
    by_cases hlt : i < k
    · have hlt' : (i : Int) < (k : Int) := by omega
      have hi3 : i = 0 ∨ i = 1 ∨ i = 2 := by omega
      rcases hi3 with rfl | rfl | rfl
      · have HCE : Hid (∀ w', Below (B + 3) wr w' → w'.cell? ⟨B + 1, 0, none⟩ = some (.int .i64 a0) ∧ w'.cell? ⟨B + 1 + 1, 0, none⟩ = some (.int .i64 b0)) := Lib.hid (fun w' h => by obtain ⟨_, g0, g1, g2, g3, g4, g5⟩ := HC.out w' (HB.out.trans h); exact ⟨g0, g3⟩)
        go_wp2_with fail
        apply R.wp_region_text [0, 1, 2, 3, 4, 5, 6] [7, 8, 9, 10] 10 (fun w' => Below (B + 3) wr w')
        case hm => kernel_rfl
        case hB => kernel_rfl
        case hd => rfl
        case hQ => exact fun _ _ _ _ _ h => h
        case hS => exact (Below.refl _ _).drew
        case hF =>
          intro w' hS
          obtain ⟨y0, y1⟩ := HCE.out w' hS
          clear hS
          simp only [R.pickC, List.filterMap_cons, List.getElem?_toArray, List.getElem?_cons_zero, List.getElem?_cons_succ, List.filterMap_nil]
          (with_reducible refine R.wpStill_plain rfl (fun K hK => ?_)); go_simp; with_reducible refine hK _ ?_; clear hK K
          (with_reducible refine R.wpStill_plain rfl (fun K hK => ?_)); go_simp; with_reducible refine hK _ ?_; clear hK K
          (with_reducible refine R.wpStill_plain rfl (fun K hK => ?_)); go_simp; with_reducible refine hK _ ?_; clear hK K
          (with_reducible refine R.wpStill_plain rfl (fun K hK => ?_)); go_simp; with_reducible refine hK _ ?_; clear hK K
          (with_reducible refine R.wpStill_plain rfl (fun K hK => ?_)); go_simp; with_reducible refine hK _ ?_; clear hK K
          (with_reducible refine R.wpStill_plain rfl (fun K hK => ?_)); go_simp; with_reducible refine hK _ ?_; clear hK K
          (with_reducible refine R.wpStill_plain rfl (fun K hK => ?_)); go_simp; with_reducible refine hK _ ?_; clear hK K
          exact wpStill_nil rfl
        case hC =>
          simp only [R.chainOf, List.getElem?_toArray, List.getElem?_cons_zero, List.getElem?_cons_succ, Nat.reduceBNe, Bool.and_true, Bool.and_false, Bool.false_and]
          refine R.wpSeq_same (fun K hK => ?_)
          go_simp
          refine (HA0.out _).mono ?_
          rintro e w2 ⟨rfl, hb2⟩
          have hbx : Below wr.heap.size wr w2 := (Below.refl _ wr).drew.trans hb2
          have hS2 : Below (B + 3) wr w2 := hbx.mono hsz
          have hz2 : B + 3 ≤ w2.heap.size := Nat.le_trans hsz hS2.size
          have hO2 : Kd.R (Kd.int .i64) 3 w2 (B + 3) (fun _ => True) u7 (L.take 0) := Kd.R_below HR.out hbx
          refine hK _ _ hS2 ?_
          clear hK K hb2
          refine R.wpSeq_same (fun K hK => ?_)
          go_simp
          refine hK _ _ (hS2.alloc hz2 _) ?_
          clear hK K
          refine R.wpSeq_same (fun K hK => ?_)
          refine Kd.R_append_step (Kd.int .i64) (w0 := W1) (B + 3) (by rfl) (.tmp 14) (.tmp 22) 22 3 (.int .i64 0) 8 rfl Try.underlying22 info3 rfl (by decide) (by omega) _ (L.take 0) d0 [.int .i64 d0] (fun _ => True) (fun _ => False) (by rfl) (by rfl) ?aP (fun _ hk => hk.elim) (fun _ _ => trivial) hO2 (HB.out.trans hS2) hz2 (by rw [List.length_take]; omega) ?_
          case aP => exact rfl
          intro v1 w1 ho hb hg hat
          have hS4 : Below (B + 3) wr w1 := hS2.grown hg hz2 (fun k hk => ((Kd.R_bound hO2).1 k hk).2.1)
          refine hK _ _ hS4 ?_
          clear hK K
          refine R.wpSeq_tail _ rfl ?_
          simp only [List.map_cons, List.map_nil]
          go_wp2_with fail
          refine ⟨⟨0 + 1, by go_num, by omega, Nat.le_trans hz2 hg.size, Lib.hid (by rw [List.take_add_one, HL0.out]; exact ho), Lib.hid (HB.out.trans hS4)⟩, by simp [intOf]; omega⟩
      · have HCE : Hid (∀ w', Below (B + 3) wr w' → w'.cell? ⟨B + 1, 1, none⟩ = some (.int .i64 a1) ∧ w'.cell? ⟨B + 1 + 1, 1, none⟩ = some (.int .i64 b1)) := Lib.hid (fun w' h => by obtain ⟨_, g0, g1, g2, g3, g4, g5⟩ := HC.out w' (HB.out.trans h); exact ⟨g1, g4⟩)
        go_wp2_with fail
        apply R.wp_region_text [0, 1, 2, 3, 4, 5, 6] [7, 8, 9, 10] 10 (fun w' => Below (B + 3) wr w')
        case hm => kernel_rfl
        case hB => kernel_rfl
        case hd => rfl
        case hQ => exact fun _ _ _ _ _ h => h
        case hS => exact (Below.refl _ _).drew
        case hF =>
          intro w' hS
          obtain ⟨y0, y1⟩ := HCE.out w' hS
          clear hS
          simp only [R.pickC, List.filterMap_cons, List.getElem?_toArray, List.getElem?_cons_zero, List.getElem?_cons_succ, List.filterMap_nil]
          (with_reducible refine R.wpStill_plain rfl (fun K hK => ?_)); go_simp; with_reducible refine hK _ ?_; clear hK K
          (with_reducible refine R.wpStill_plain rfl (fun K hK => ?_)); go_simp; with_reducible refine hK _ ?_; clear hK K
          (with_reducible refine R.wpStill_plain rfl (fun K hK => ?_)); go_simp; with_reducible refine hK _ ?_; clear hK K
          (with_reducible refine R.wpStill_plain rfl (fun K hK => ?_)); go_simp; with_reducible refine hK _ ?_; clear hK K
          (with_reducible refine R.wpStill_plain rfl (fun K hK => ?_)); go_simp; with_reducible refine hK _ ?_; clear hK K
          (with_reducible refine R.wpStill_plain rfl (fun K hK => ?_)); go_simp; with_reducible refine hK _ ?_; clear hK K
          (with_reducible refine R.wpStill_plain rfl (fun K hK => ?_)); go_simp; with_reducible refine hK _ ?_; clear hK K
          exact wpStill_nil rfl
        case hC =>
          simp only [R.chainOf, List.getElem?_toArray, List.getElem?_cons_zero, List.getElem?_cons_succ, Nat.reduceBNe, Bool.and_true, Bool.and_false, Bool.false_and]
          refine R.wpSeq_same (fun K hK => ?_)
          go_simp
          refine (HA1.out _).mono ?_
          rintro e w2 ⟨rfl, hb2⟩
          have hbx : Below wr.heap.size wr w2 := (Below.refl _ wr).drew.trans hb2
          have hS2 : Below (B + 3) wr w2 := hbx.mono hsz
          have hz2 : B + 3 ≤ w2.heap.size := Nat.le_trans hsz hS2.size
          have hO2 : Kd.R (Kd.int .i64) 3 w2 (B + 3) (fun _ => True) u7 (L.take 1) := Kd.R_below HR.out hbx
          refine hK _ _ hS2 ?_
          clear hK K hb2
          refine R.wpSeq_same (fun K hK => ?_)
          go_simp
          refine hK _ _ (hS2.alloc hz2 _) ?_
          clear hK K
          refine R.wpSeq_same (fun K hK => ?_)
          refine Kd.R_append_step (Kd.int .i64) (w0 := W1) (B + 3) (by rfl) (.tmp 14) (.tmp 22) 22 3 (.int .i64 0) 8 rfl Try.underlying22 info3 rfl (by decide) (by omega) _ (L.take 1) d1 [.int .i64 d1] (fun _ => True) (fun _ => False) (by rfl) (by rfl) ?aP (fun _ hk => hk.elim) (fun _ _ => trivial) hO2 (HB.out.trans hS2) hz2 (by rw [List.length_take]; omega) ?_
          case aP => exact rfl
          intro v1 w1 ho hb hg hat
          have hS4 : Below (B + 3) wr w1 := hS2.grown hg hz2 (fun k hk => ((Kd.R_bound hO2).1 k hk).2.1)
          refine hK _ _ hS4 ?_
          clear hK K
          refine R.wpSeq_tail _ rfl ?_
          simp only [List.map_cons, List.map_nil]
          go_wp2_with fail
          refine ⟨⟨1 + 1, by go_num, by omega, Nat.le_trans hz2 hg.size, Lib.hid (by rw [List.take_add_one, HL1.out]; exact ho), Lib.hid (HB.out.trans hS4)⟩, by simp [intOf]; omega⟩
      · have HCE : Hid (∀ w', Below (B + 3) wr w' → w'.cell? ⟨B + 1, 2, none⟩ = some (.int .i64 a2) ∧ w'.cell? ⟨B + 1 + 1, 2, none⟩ = some (.int .i64 b2)) := Lib.hid (fun w' h => by obtain ⟨_, g0, g1, g2, g3, g4, g5⟩ := HC.out w' (HB.out.trans h); exact ⟨g2, g5⟩)
        go_wp2_with fail
        apply R.wp_region_text [0, 1, 2, 3, 4, 5, 6] [7, 8, 9, 10] 10 (fun w' => Below (B + 3) wr w')
        case hm => kernel_rfl
        case hB => kernel_rfl
        case hd => rfl
        case hQ => exact fun _ _ _ _ _ h => h
        case hS => exact (Below.refl _ _).drew
        case hF =>
          intro w' hS
          obtain ⟨y0, y1⟩ := HCE.out w' hS
          clear hS
          simp only [R.pickC, List.filterMap_cons, List.getElem?_toArray, List.getElem?_cons_zero, List.getElem?_cons_succ, List.filterMap_nil]
          (with_reducible refine R.wpStill_plain rfl (fun K hK => ?_)); go_simp; with_reducible refine hK _ ?_; clear hK K
          (with_reducible refine R.wpStill_plain rfl (fun K hK => ?_)); go_simp; with_reducible refine hK _ ?_; clear hK K
          (with_reducible refine R.wpStill_plain rfl (fun K hK => ?_)); go_simp; with_reducible refine hK _ ?_; clear hK K
          (with_reducible refine R.wpStill_plain rfl (fun K hK => ?_)); go_simp; with_reducible refine hK _ ?_; clear hK K
          (with_reducible refine R.wpStill_plain rfl (fun K hK => ?_)); go_simp; with_reducible refine hK _ ?_; clear hK K
          (with_reducible refine R.wpStill_plain rfl (fun K hK => ?_)); go_simp; with_reducible refine hK _ ?_; clear hK K
          (with_reducible refine R.wpStill_plain rfl (fun K hK => ?_)); go_simp; with_reducible refine hK _ ?_; clear hK K
          exact wpStill_nil rfl
        case hC =>
          simp only [R.chainOf, List.getElem?_toArray, List.getElem?_cons_zero, List.getElem?_cons_succ, Nat.reduceBNe, Bool.and_true, Bool.and_false, Bool.false_and]
          refine R.wpSeq_same (fun K hK => ?_)
          go_simp
          refine (HA2.out _).mono ?_
          rintro e w2 ⟨rfl, hb2⟩
          have hbx : Below wr.heap.size wr w2 := (Below.refl _ wr).drew.trans hb2
          have hS2 : Below (B + 3) wr w2 := hbx.mono hsz
          have hz2 : B + 3 ≤ w2.heap.size := Nat.le_trans hsz hS2.size
          have hO2 : Kd.R (Kd.int .i64) 3 w2 (B + 3) (fun _ => True) u7 (L.take 2) := Kd.R_below HR.out hbx
          refine hK _ _ hS2 ?_
          clear hK K hb2
          refine R.wpSeq_same (fun K hK => ?_)
          go_simp
          refine hK _ _ (hS2.alloc hz2 _) ?_
          clear hK K
          refine R.wpSeq_same (fun K hK => ?_)
          refine Kd.R_append_step (Kd.int .i64) (w0 := W1) (B + 3) (by rfl) (.tmp 14) (.tmp 22) 22 3 (.int .i64 0) 8 rfl Try.underlying22 info3 rfl (by decide) (by omega) _ (L.take 2) d2 [.int .i64 d2] (fun _ => True) (fun _ => False) (by rfl) (by rfl) ?aP (fun _ hk => hk.elim) (fun _ _ => trivial) hO2 (HB.out.trans hS2) hz2 (by rw [List.length_take]; omega) ?_
          case aP => exact rfl
          intro v1 w1 ho hb hg hat
          have hS4 : Below (B + 3) wr w1 := hS2.grown hg hz2 (fun k hk => ((Kd.R_bound hO2).1 k hk).2.1)
          refine hK _ _ hS4 ?_
          clear hK K
          refine R.wpSeq_tail _ rfl ?_
          simp only [List.map_cons, List.map_nil]
          go_wp2_with fail
          refine ⟨⟨2 + 1, by go_num, by omega, Nat.le_trans hz2 hg.size, Lib.hid (by rw [List.take_add_one, HL2.out]; exact ho), Lib.hid (HB.out.trans hS4)⟩, by simp [intOf]; omega⟩
    · obtain rfl : i = k := by omega
      have hge : ¬ (i : Int) < (i : Int) := by omega
      obtain ⟨A7, c7, e7, hc7, hr7⟩ := Kd.R_reads HR.out
      subst e7
      obtain ⟨M, hM⟩ : ∃ M, L.take i = M := ⟨_, rfl⟩
      have hml : M.length ≤ 1000 := by rw [← hM, List.length_take]; omega
      have hms : Small M := by rw [← hM]; exact fun x hx => HSM.out x (List.mem_of_mem_take hx)
      rw [hM] at hr7 hc7 ⊢
      have HM := Lib.hid hM
      have HT := Lib.hid (total_c A7 c7 M wr hms hml hr7 hc7)
      have HBB : Hid (Below w.heap.size w wr) := Lib.hid (HB1.out.trans (HB.out.mono (by rw [HBW.out]; omega)))
      clear hr7 hc7 hml hms HSM HA0 HA1 HA2 HL0 HL1 HL2 HR HB HC hM
      go_wp2_with (go_at_call 47; (with_reducible refine HT.out.mono ?_); rintro e w' ⟨rfl, hb⟩)
      go_ret
      exact ⟨by rw [HM.out]; rfl, HBB.out.trans (hb.mono HBB.out.size)⟩
theorem sum_dist : ∀ (k : Nat) (a0 a1 a2 b0 b1 b2 : Int), k ≤ 3 → sum ((dL a0 a1 a2 b0 b1 b2).take k) = dist ([a0, a1, a2].take k) ([b0, b1, b2].take k) := by
  intro k a0 a1 a2 b0 b1 b2 hk
  match k, hk with
  | 0, _ => rfl
  | 1, _ => simp [sum, dist]
  | 2, _ => simp [sum, dist]
  | 3, _ => simp [sum, dist]
end Go.Proofs.Ytakbijpcfnipoaa.A

set_option linter.unusedVariables false
set_option linter.unusedSimpArgs false
namespace Go.Proofs.Ytakbijpcfnipoaa.A
open Go.RowKit Go.Proofs.YtakbijpcfnipoaaW.PrintWords Go.Proofs.YtakbijpcfnipoaaW.PrintLast Go.Proofs.YtakbijpcfnipoaaW.PrintMore
open Go.Proofs.Ytakbijpcfnipoaa.PA Go.Proofs.Ytakbijpcfnipoaa.Lf
theorem contains_ev {l : List Int} {x : Int} (hl : l.length ≤ 100000) : Ev (fun k => slices_Contains_int_int.f k l x) (l.contains x) := by
  have key : ∀ d i, i + d = l.length → ∃ r, Ev (fun k => slices_Index_int_int.l0 k l x (l.length : Int) (i : Int)) r ∧ decide (r ≥ 0) = (l.drop i).contains x := by
    intro d
    induction d with
    | zero =>
      intro i hi
      obtain rfl : i = l.length := by omega
      refine ⟨-1, Ev.step (f := fun _ => some (-1)) (fun k => ?_) (Ev.now _), by simp⟩
      rw [slices_Index_int_int.l0, if_neg (by omega)]
    | succ d ih =>
      intro i hi
      have hil : i < l.length := by omega
      have eD : l.drop i = l.getD i 0 :: l.drop (i + 1) := by
        rw [List.drop_eq_getElem_cons hil, List.getD_eq_getElem?_getD, List.getElem?_eq_getElem hil]
        rfl
      by_cases c : x = l.getD i 0
      · refine ⟨(i : Int), Ev.step (f := fun _ => some (i : Int)) (fun k => ?_) (Ev.now _), ?_⟩
        · rw [slices_Index_int_int.l0, if_pos (by omega), if_pos (by omega), if_pos (by omega), rdI, if_pos c]
        · rw [eD, ← c, List.contains_cons, decide_eq_true (by omega)]
          simp
      · obtain ⟨r, h1, h2⟩ := ih (i + 1) (by omega)
        refine ⟨r, Ev.step (fun k => ?_) h1, ?_⟩
        · rw [slices_Index_int_int.l0, if_pos (by omega), if_pos (by omega), if_pos (by omega), rdI, if_neg c, wrapN i (by omega)]
        · rw [h2, eD, List.contains_cons]
          have : (x == l.getD i 0) = false := by simpa using c
          rw [this, Bool.false_or]
  obtain ⟨r, h1, h2⟩ := key l.length 0 (by omega)
  rw [List.drop_zero] at h2
  rw [← h2]
  exact Ev.bind h1 (Ev.now _)
theorem contains_c (A : Option Addr) (c : Nat) (l : List Int) (x : Int) (w : World) (hl : l.length ≤ 100000) (hr : Kd.C (Kd.int .i64) w A l.length l) (hc : l.length ≤ c) :
    Calls Try.prog 67 #[.slice A l.length c, .int .i64 x] w fun e w' => e = .returned (.bool (l.contains x)) ∧ Below w.heap.size w w' := by
  obtain ⟨k, hk⟩ := (contains_ev (x := x) hl).rounds
  exact (slices_Contains_int_int.calls k A c l x (l.contains x) w hr hc hk).mono fun e w' ⟨he, nd, hw⟩ => ⟨he, by rw [hw]; exact ⟨rfl, rfl, rfl, Nat.le_refl _, fun _ _ => rfl⟩⟩
abbrev T3 (k : Nat) (a b c : Int) : List Int := [a, b, c].take k
theorem t3_len {k : Nat} (h : k ≤ 3) (a b c : Int) : (T3 k a b c).length = k := by simp [T3]; omega
theorem t3_C {w : World} {B k : Nat} {a b c : Int} (hk : k ≤ 3) (h0 : w.cell? ⟨B, 0, none⟩ = some (.int .i64 a)) (h1 : w.cell? ⟨B, 1, none⟩ = some (.int .i64 b)) (h2 : w.cell? ⟨B, 2, none⟩ = some (.int .i64 c)) :
    Kd.C (Kd.int .i64) w (some ⟨B, 0, none⟩) k (T3 k a b c) := by
  refine ⟨t3_len hk a b c, by omega, fun _ => ⟨⟨B, 0, none⟩, rfl, fun j p hj => ⟨[.int .i64 p], rfl, rfl, fun i u hu => ?_⟩⟩⟩
  have hi : i = 0 := by
    have := (List.getElem?_eq_some_iff.1 hu).1
    simpa using this
  subst hi
  simp at hu
  subst hu
  rw [List.getElem?_take] at hj
  split at hj
  · next hjk =>
    have hj3 : j = 0 ∨ j = 1 ∨ j = 2 := by omega
    rcases hj3 with rfl | rfl | rfl
    · simp at hj; subst hj; exact h0
    · simp at hj; subst hj
      show w.cell? ((⟨B, 0, none⟩ : Addr).add (1 * 1 + 0)) = _
      simpa [Addr.add] using h1
    · simp at hj; subst hj
      show w.cell? ((⟨B, 0, none⟩ : Addr).add (2 * 1 + 0)) = _
      simpa [Addr.add] using h2
  · cases hj
set_option maxHeartbeats 4000000 in
set_option maxRecDepth 100000 in
theorem has_c (k : Nat) (hk3 : k ≤ 3) (s0 s1 s2 : Int) (A : Option Addr) (n c : Nat) (a0 a1 a2 f : Int) (w : World) :
    Calls Try.prog 46 #[hv k s0 s1 s2 (.slice A n c), sv a0 a1 a2, .int .i64 f] w fun e w' => e = .returned (.bool ((T3 k a0 a1 a2).contains f)) ∧ Below w.heap.size w w' := by
  obtain ⟨r, hr⟩ : ∃ r, (T3 k a0 a1 a2).contains f = r := ⟨_, rfl⟩
  rw [hr]
  obtain ⟨B, hB⟩ : ∃ B, w.heap.size = B := ⟨_, rfl⟩
  have hk3' : (k : Int) ≤ 3 := by omega
  have hk0' : (0 : Int) ≤ (k : Int) := by omega
  go_enter Try.func46, Try.ntmps46
  go_upto_region 1 with fail
  have hB1 : Below w.heap.size w ((w.alloc (Obj.cells #[Value.int IntKind.i64 ↑k, Value.int IntKind.i64 s0, Value.int IntKind.i64 s1, Value.int IntKind.i64 s2, Value.slice A n c] 54)).alloc (Obj.cells #[Value.int IntKind.i64 a0, Value.int IntKind.i64 a1, Value.int IntKind.i64 a2] 52)) :=
    below_new _ _ (below_new _ _ (Below.refl _ _) _) _
  have hk0 : ((w.alloc (Obj.cells #[Value.int IntKind.i64 ↑k, Value.int IntKind.i64 s0, Value.int IntKind.i64 s1, Value.int IntKind.i64 s2, Value.slice A n c] 54)).alloc (Obj.cells #[Value.int IntKind.i64 a0, Value.int IntKind.i64 a1, Value.int IntKind.i64 a2] 52)).cell? ⟨B, 0, none⟩ = some (.int .i64 (k : Int)) := by rw [← hB]; simp [go_sem]
  have hC : Kd.C (Kd.int .i64) ((w.alloc (Obj.cells #[Value.int IntKind.i64 ↑k, Value.int IntKind.i64 s0, Value.int IntKind.i64 s1, Value.int IntKind.i64 s2, Value.slice A n c] 54)).alloc (Obj.cells #[Value.int IntKind.i64 a0, Value.int IntKind.i64 a1, Value.int IntKind.i64 a2] 52)) (some ⟨B + 1, 0, none⟩) k (T3 k a0 a1 a2) :=
    t3_C hk3 (by rw [← hB]; simp [go_sem]) (by rw [← hB]; simp [go_sem]) (by rw [← hB]; simp [go_sem])
  generalize ((w.alloc (Obj.cells #[Value.int IntKind.i64 ↑k, Value.int IntKind.i64 s0, Value.int IntKind.i64 s1, Value.int IntKind.i64 s2, Value.slice A n c] 54)).alloc (Obj.cells #[Value.int IntKind.i64 a0, Value.int IntKind.i64 a1, Value.int IntKind.i64 a2] 52)) = W1 at *
  have HT : Hid (Calls Try.prog 67 #[.slice (some ⟨B + 1, 0, none⟩) k 3, .int .i64 f] W1 fun e w' => e = .returned (.bool r) ∧ Below W1.heap.size W1 w') := by
    refine Lib.hid ?_
    obtain ⟨M, hM⟩ : ∃ M, T3 k a0 a1 a2 = M := ⟨_, rfl⟩
    have hml : M.length = k := by rw [← hM]; exact t3_len hk3 _ _ _
    rw [hM] at hC hr
    have := contains_c (some ⟨B + 1, 0, none⟩) 3 M f W1 (by omega) (by rw [hml]; exact hC) (by omega)
    rwa [hml, hr] at this
  have HB1 := Lib.hid hB1
  clear hC hB1 hB hr
  go_wp2_with (go_at_call 67; (with_reducible refine HT.out.mono ?_); rintro e w' ⟨rfl, hb⟩)
  go_ret
  exact ⟨rfl, HB1.out.trans (hb.mono HB1.out.size)⟩
set_option maxRecDepth 100000 in
set_option maxHeartbeats 1600000 in
theorem clone_c (A : Option Addr) (c : Nat) (l : List Int) (w : World) (hr : Kd.C (Kd.int .i64) w A l.length l) (hcc : l.length ≤ c) (hl : l.length ≤ 1000) :
    Calls Try.prog 70 #[.slice A l.length c] w fun e w' => ∃ v, e = .returned v ∧ Kd.R (Kd.int .i64) 3 w' w.heap.size (fun _ => True) v l ∧ Below w.heap.size w w' := by
  obtain ⟨i0, hi0, hz0, hz1, hz2⟩ := info_parts info3
  have HR := Lib.hid hr
  clear hr
  have q22 : ∀ (w : World) (a : Option Addr) (n c n' c' : Nat), (binOp .eql 22 (.slice a n c) (.slice none n' c')).run Try.prog w = .ok (.bool a.isNone) w := fun w a n c n' c' => Lib.run_eql_slice_nil w _ _ a n c n' c' Try.underlying22
  cases A with
  | none =>
    obtain rfl : l = [] := by
      cases l with
      | nil => rfl
      | cons x xs => exact absurd (HR.out.2.2 (by simp)) (by simp)
    go_enter Try.func70, Try.ntmps70
    go_wp2_with fail
    go_ret
    exact ⟨_, rfl, Kd.R_nil _ _ _ _ _, Below.refl _ _⟩
  | some ad =>
    have hown0 : (w.alloc (Obj.cells #[] 3)).ownsRow w.heap.size 3 1 (.slice (some ⟨w.heap.size, 0, none⟩) 0 0) 0 [] :=
      ⟨rfl, .inr ⟨w.heap.size, 0, #[], rfl, Nat.le_refl _, heap_alloc_new _ _, Nat.le_refl _, Nat.zero_le _, rfl, rfl⟩⟩
    have HO0 := Lib.hid hown0
    clear hown0
    go_enter Try.func70, Try.ntmps70
    go_wp2_with (at_builtin; refine Kd.R_append_rows (Kd.int .i64) (w0 := w) w.heap.size rfl (.tmp 5) (.tmp 6) 22 3 (.int .i64 0) 8 rfl Try.underlying22 info3 rfl (by decide) (by omega) _ ([] : List Int) l _ _ _ (fun _ => True) (fun _ => False) rfl rfl ?aO ?aR (fun _ _ h => h) (fun _ h => h.elim) (fun _ _ => trivial) ?aB ?aS ?aL ?_)
    case aO => exact Kd.R_of_own HO0.out (fun _ _ => trivial)
    case aR => exact Kd.C_below HR.out ((Below.refl _ _).alloc (Nat.le_refl _) _)
    case aB => exact (Below.refl _ _).alloc (Nat.le_refl _) _
    case aS => simp
    case aL => simp; omega
    intro v1 w1 ho hb hg hat
    have HO := Lib.hid ho
    clear ho
    go_wp2_with fail
    go_ret
    exact ⟨_, rfl, HO.out, hb⟩
end Go.Proofs.Ytakbijpcfnipoaa.A

set_option linter.unusedVariables false
set_option linter.unusedSimpArgs false
namespace Go.Proofs.Ytakbijpcfnipoaa.A
open Go.RowKit Go.Proofs.YtakbijpcfnipoaaW.PrintWords Go.Proofs.YtakbijpcfnipoaaW.PrintLast Go.Proofs.YtakbijpcfnipoaaW.PrintMore
open Go.Proofs.Ytakbijpcfnipoaa.PA Go.Proofs.Ytakbijpcfnipoaa.Lf
def posB : List Int → Bool
  | [x] => withinB x 0 30
  | [x, y] => withinB x 0 30 && (withinB y 0 30 && decide (x ≤ y))
  | [x, y, z] => withinB x 0 30 && (withinB y 0 30 && (decide (x ≤ y) && (withinB z 0 30 && decide (y ≤ z))))
  | _ => false
theorem withinB_iff {x : Int} : withinB x 0 30 = true ↔ Fl x := by simp [withinB, Fl]
theorem posB_iff {l : List Int} : posB l = true ↔ 1 ≤ l.length ∧ l.length ≤ 3 ∧ Pos l.length l := by
  match l with
  | [] => simp [posB]
  | [x] =>
    simp only [posB, withinB_iff]
    constructor
    · intro h; exact ⟨by simp, by simp, mk1 h.1 h.2⟩
    · rintro ⟨_, _, h⟩; exact h.rng x (by simp)
  | [x, y] =>
    simp only [posB, withinB_iff, Bool.and_eq_true, decide_eq_true_eq]
    constructor
    · rintro ⟨h1, h2, h3⟩; exact ⟨by simp, by simp, mk2 h1.1 h3 h2.2⟩
    · rintro ⟨_, _, h⟩; exact ⟨h.rng x (by simp), h.rng y (by simp), by have := h.srt; simpa [Srt] using this⟩
  | [x, y, z] =>
    simp only [posB, withinB_iff, Bool.and_eq_true, decide_eq_true_eq]
    constructor
    · rintro ⟨h1, h2, h3, h4, h5⟩; exact ⟨by simp, by simp, mk3 h1.1 h3 h5 h4.2⟩
    · rintro ⟨_, _, h⟩
      have hs := h.srt
      simp [Srt] at hs
      exact ⟨h.rng x (by simp), h.rng y (by simp), hs.1.1, h.rng z (by simp), hs.2⟩
  | _ :: _ :: _ :: _ :: l => simp [posB]
theorem mem1 {w : World} {A : Option Addr} {l : List Int} (h : Kd.C (Kd.int .i64) w A l.length l) (hl : 0 < l.length) : ∃ ad, A = some ad ∧ ∀ j x, l[j]? = some x → w.cell? (ad.add j) = some (.int .i64 x) ∧ (ad.add j).block < w.heap.size := by
  obtain ⟨ad, e, hc⟩ := h.2.2 hl
  refine ⟨ad, e, fun j x hj => ?_⟩
  obtain ⟨c, hc1, hc2, hc3⟩ := hc j x hj
  have h9 : c = [.int .i64 x] := hc2
  subst h9
  have h8 := hc3 0 _ rfl
  have h7 : w.cell? (ad.add j) = some (.int .i64 x) := by
    have e9 : j * (Kd.int .i64).sz + 0 = j := by show j * 1 + 0 = j; omega
    rwa [e9] at h8
  exact ⟨h7, World.block_lt_of_cell? w _ h7⟩
theorem ad_flat {ad : Addr} : ad.add 0 = ad := by simp [Addr.add]
set_option maxHeartbeats 8000000 in
set_option maxRecDepth 100000 in
theorem spots1_c (A : Option Addr) (c : Nat) (x : Int) (w : World) (hr : Kd.C (Kd.int .i64) w A 1 [x]) :
    Calls Try.prog 45 #[.slice A 1 c] w fun e w' => e = .returned (.tuple #[if posB [x] then sv x 0 0 else sv 0 0 0, .bool (posB [x])]) ∧ Below w.heap.size w w' := by
  obtain ⟨ad, rfl, HM⟩ := mem1 (l := [x]) hr (by simp)
  have hm0 := (HM 0 x rfl).1
  have HWL := fun W => Lib.hid (within_c 1 1 3 W)
  have hwl : withinB 1 1 3 = true := by decide
  rw [hwl] at HWL
  clear hwl
  have HW0 := fun W => Lib.hid (within_c x 0 30 W)
  unfold posB
  obtain ⟨B, hB⟩ : ∃ B, w.heap.size = B := ⟨_, rfl⟩
  go_enter Try.func45, Try.ntmps45
  go_upto_region 4 with (go_at_call 66; (first | ((with_reducible refine (HWL _).out.mono ?_)) | ((with_reducible refine (HW0 _).out.mono ?_))); rintro e w' ⟨rfl, rfl⟩)
  have hB1 : Below w.heap.size w ((w.alloc (Obj.cells #[Value.int IntKind.i64 0, Value.int IntKind.i64 0, Value.int IntKind.i64 0] 52)).alloc (Obj.cells #[Value.int IntKind.i64 0, Value.int IntKind.i64 0, Value.int IntKind.i64 0] 52)) := below_new _ _ (below_new _ _ (Below.refl _ _) _) _
  have hmm : ∀ j v, (ad.add j).block < w.heap.size → w.cell? (ad.add j) = some v → ((w.alloc (Obj.cells #[Value.int IntKind.i64 0, Value.int IntKind.i64 0, Value.int IntKind.i64 0] 52)).alloc (Obj.cells #[Value.int IntKind.i64 0, Value.int IntKind.i64 0, Value.int IntKind.i64 0] 52)).cell? (ad.add j) = some v := fun j v h1 h2 => (hB1.cell h1).trans h2
  replace hm0 := hmm 0 _ (HM 0 x rfl).2 (HM 0 x rfl).1
  rw [ad_flat] at hm0
  have cr0 : ((w.alloc (Obj.cells #[Value.int IntKind.i64 0, Value.int IntKind.i64 0, Value.int IntKind.i64 0] 52)).alloc (Obj.cells #[Value.int IntKind.i64 0, Value.int IntKind.i64 0, Value.int IntKind.i64 0] 52)).cell? ⟨B, 0, none⟩ = some (.int .i64 0) := by rw [← hB]; simp [go_sem]
  have fr0 : ((w.alloc (Obj.cells #[Value.int IntKind.i64 0, Value.int IntKind.i64 0, Value.int IntKind.i64 0] 52)).alloc (Obj.cells #[Value.int IntKind.i64 0, Value.int IntKind.i64 0, Value.int IntKind.i64 0] 52)).frozen? ⟨B, 0, none⟩ = false := by rw [← hB]; simp [go_sem]
  have cr1 : ((w.alloc (Obj.cells #[Value.int IntKind.i64 0, Value.int IntKind.i64 0, Value.int IntKind.i64 0] 52)).alloc (Obj.cells #[Value.int IntKind.i64 0, Value.int IntKind.i64 0, Value.int IntKind.i64 0] 52)).cell? ⟨B, 1, none⟩ = some (.int .i64 0) := by rw [← hB]; simp [go_sem]
  have fr1 : ((w.alloc (Obj.cells #[Value.int IntKind.i64 0, Value.int IntKind.i64 0, Value.int IntKind.i64 0] 52)).alloc (Obj.cells #[Value.int IntKind.i64 0, Value.int IntKind.i64 0, Value.int IntKind.i64 0] 52)).frozen? ⟨B, 1, none⟩ = false := by rw [← hB]; simp [go_sem]
  have cr2 : ((w.alloc (Obj.cells #[Value.int IntKind.i64 0, Value.int IntKind.i64 0, Value.int IntKind.i64 0] 52)).alloc (Obj.cells #[Value.int IntKind.i64 0, Value.int IntKind.i64 0, Value.int IntKind.i64 0] 52)).cell? ⟨B, 2, none⟩ = some (.int .i64 0) := by rw [← hB]; simp [go_sem]
  have fr2 : ((w.alloc (Obj.cells #[Value.int IntKind.i64 0, Value.int IntKind.i64 0, Value.int IntKind.i64 0] 52)).alloc (Obj.cells #[Value.int IntKind.i64 0, Value.int IntKind.i64 0, Value.int IntKind.i64 0] 52)).frozen? ⟨B, 2, none⟩ = false := by rw [← hB]; simp [go_sem]
  have co0 : ((w.alloc (Obj.cells #[Value.int IntKind.i64 0, Value.int IntKind.i64 0, Value.int IntKind.i64 0] 52)).alloc (Obj.cells #[Value.int IntKind.i64 0, Value.int IntKind.i64 0, Value.int IntKind.i64 0] 52)).cell? ⟨B + 1, 0, none⟩ = some (.int .i64 0) := by rw [← hB]; simp [go_sem]
  have fo0 : ((w.alloc (Obj.cells #[Value.int IntKind.i64 0, Value.int IntKind.i64 0, Value.int IntKind.i64 0] 52)).alloc (Obj.cells #[Value.int IntKind.i64 0, Value.int IntKind.i64 0, Value.int IntKind.i64 0] 52)).frozen? ⟨B + 1, 0, none⟩ = false := by rw [← hB]; simp [go_sem]
  have co1 : ((w.alloc (Obj.cells #[Value.int IntKind.i64 0, Value.int IntKind.i64 0, Value.int IntKind.i64 0] 52)).alloc (Obj.cells #[Value.int IntKind.i64 0, Value.int IntKind.i64 0, Value.int IntKind.i64 0] 52)).cell? ⟨B + 1, 1, none⟩ = some (.int .i64 0) := by rw [← hB]; simp [go_sem]
  have fo1 : ((w.alloc (Obj.cells #[Value.int IntKind.i64 0, Value.int IntKind.i64 0, Value.int IntKind.i64 0] 52)).alloc (Obj.cells #[Value.int IntKind.i64 0, Value.int IntKind.i64 0, Value.int IntKind.i64 0] 52)).frozen? ⟨B + 1, 1, none⟩ = false := by rw [← hB]; simp [go_sem]
  have co2 : ((w.alloc (Obj.cells #[Value.int IntKind.i64 0, Value.int IntKind.i64 0, Value.int IntKind.i64 0] 52)).alloc (Obj.cells #[Value.int IntKind.i64 0, Value.int IntKind.i64 0, Value.int IntKind.i64 0] 52)).cell? ⟨B + 1, 2, none⟩ = some (.int .i64 0) := by rw [← hB]; simp [go_sem]
  have fo2 : ((w.alloc (Obj.cells #[Value.int IntKind.i64 0, Value.int IntKind.i64 0, Value.int IntKind.i64 0] 52)).alloc (Obj.cells #[Value.int IntKind.i64 0, Value.int IntKind.i64 0, Value.int IntKind.i64 0] 52)).frozen? ⟨B + 1, 2, none⟩ = false := by rw [← hB]; simp [go_sem]
  generalize ((w.alloc (Obj.cells #[Value.int IntKind.i64 0, Value.int IntKind.i64 0, Value.int IntKind.i64 0] 52)).alloc (Obj.cells #[Value.int IntKind.i64 0, Value.int IntKind.i64 0, Value.int IntKind.i64 0] 52)) = W1 at *
  have HB1 := Lib.hid hB1
  have HBB := Lib.hid hB
  clear hB1 hmm hB
  cases h0 : withinB x 0 30 with
  | false =>
    rw [h0] at HW0
    go_wp2_with fail
    refine wp_loop_rounds 2 ?_
    rw [rounds_succ]
    go_wp2_with (go_at_call 66; (first | ((with_reducible refine (HWL _).out.mono ?_)) | ((with_reducible refine (HW0 _).out.mono ?_))); rintro e w' ⟨rfl, rfl⟩)
    all_goals (refine bodyPost_ret (v := .tuple #[sv 0 0 0, .bool false]) (by simp [results, Try.results45, go_sem, cr0, cr1, cr2]) rfl ⟨by first | rfl | (rw [gd]; rfl) | (rw [gd]; simp), ?_⟩; (repeat (refine Below.setCell ?_ (by show w.heap.size ≤ _; rw [HBB.out]; simp) _)); exact HB1.out)
  | true =>
    rw [h0] at HW0
    go_wp2_with fail
    refine wp_loop_rounds 2 ?_
    rw [rounds_succ]
    go_wp2_with (go_at_call 66; (first | ((with_reducible refine (HWL _).out.mono ?_)) | ((with_reducible refine (HW0 _).out.mono ?_))); rintro e w' ⟨rfl, rfl⟩)
    rw [rounds_succ]
    go_wp2_with (go_at_call 66; (first | ((with_reducible refine (HWL _).out.mono ?_)) | ((with_reducible refine (HW0 _).out.mono ?_))); rintro e w' ⟨rfl, rfl⟩)
    all_goals (refine bodyPost_ret (v := .tuple #[sv x 0 0, .bool true]) (by simp [results, Try.results45, go_sem, cr0, cr1, cr2]) rfl ⟨by first | rfl | (rw [gd]; rfl) | (rw [gd]; simp), ?_⟩; (repeat (refine Below.setCell ?_ (by show w.heap.size ≤ _; rw [HBB.out]; simp) _)); exact HB1.out)
set_option maxHeartbeats 8000000 in
set_option maxRecDepth 100000 in
theorem spots2_c (A : Option Addr) (c : Nat) (x y : Int) (w : World) (hr : Kd.C (Kd.int .i64) w A 2 [x, y]) :
    Calls Try.prog 45 #[.slice A 2 c] w fun e w' => e = .returned (.tuple #[if posB [x, y] then sv x y 0 else sv 0 0 0, .bool (posB [x, y])]) ∧ Below w.heap.size w w' := by
  obtain ⟨ad, rfl, HM⟩ := mem1 (l := [x, y]) hr (by simp)
  have hm0 := (HM 0 x rfl).1
  have hm1 := (HM 1 y rfl).1
  have HWL := fun W => Lib.hid (within_c 2 1 3 W)
  have hwl : withinB 2 1 3 = true := by decide
  rw [hwl] at HWL
  clear hwl
  have HW0 := fun W => Lib.hid (within_c x 0 30 W)
  have HW1 := fun W => Lib.hid (within_c y 0 30 W)
  unfold posB
  obtain ⟨B, hB⟩ : ∃ B, w.heap.size = B := ⟨_, rfl⟩
  go_enter Try.func45, Try.ntmps45
  go_upto_region 4 with (go_at_call 66; (first | ((with_reducible refine (HWL _).out.mono ?_)) | ((with_reducible refine (HW0 _).out.mono ?_)) | ((with_reducible refine (HW1 _).out.mono ?_))); rintro e w' ⟨rfl, rfl⟩)
  have hB1 : Below w.heap.size w ((w.alloc (Obj.cells #[Value.int IntKind.i64 0, Value.int IntKind.i64 0, Value.int IntKind.i64 0] 52)).alloc (Obj.cells #[Value.int IntKind.i64 0, Value.int IntKind.i64 0, Value.int IntKind.i64 0] 52)) := below_new _ _ (below_new _ _ (Below.refl _ _) _) _
  have hmm : ∀ j v, (ad.add j).block < w.heap.size → w.cell? (ad.add j) = some v → ((w.alloc (Obj.cells #[Value.int IntKind.i64 0, Value.int IntKind.i64 0, Value.int IntKind.i64 0] 52)).alloc (Obj.cells #[Value.int IntKind.i64 0, Value.int IntKind.i64 0, Value.int IntKind.i64 0] 52)).cell? (ad.add j) = some v := fun j v h1 h2 => (hB1.cell h1).trans h2
  replace hm0 := hmm 0 _ (HM 0 x rfl).2 (HM 0 x rfl).1
  replace hm1 := hmm 1 _ (HM 1 y rfl).2 (HM 1 y rfl).1
  rw [ad_flat] at hm0
  rw [show ad.add 1 = ⟨ad.block, ad.off + 1, none⟩ by simp [Addr.add]] at hm1
  have cr0 : ((w.alloc (Obj.cells #[Value.int IntKind.i64 0, Value.int IntKind.i64 0, Value.int IntKind.i64 0] 52)).alloc (Obj.cells #[Value.int IntKind.i64 0, Value.int IntKind.i64 0, Value.int IntKind.i64 0] 52)).cell? ⟨B, 0, none⟩ = some (.int .i64 0) := by rw [← hB]; simp [go_sem]
  have fr0 : ((w.alloc (Obj.cells #[Value.int IntKind.i64 0, Value.int IntKind.i64 0, Value.int IntKind.i64 0] 52)).alloc (Obj.cells #[Value.int IntKind.i64 0, Value.int IntKind.i64 0, Value.int IntKind.i64 0] 52)).frozen? ⟨B, 0, none⟩ = false := by rw [← hB]; simp [go_sem]
  have cr1 : ((w.alloc (Obj.cells #[Value.int IntKind.i64 0, Value.int IntKind.i64 0, Value.int IntKind.i64 0] 52)).alloc (Obj.cells #[Value.int IntKind.i64 0, Value.int IntKind.i64 0, Value.int IntKind.i64 0] 52)).cell? ⟨B, 1, none⟩ = some (.int .i64 0) := by rw [← hB]; simp [go_sem]
  have fr1 : ((w.alloc (Obj.cells #[Value.int IntKind.i64 0, Value.int IntKind.i64 0, Value.int IntKind.i64 0] 52)).alloc (Obj.cells #[Value.int IntKind.i64 0, Value.int IntKind.i64 0, Value.int IntKind.i64 0] 52)).frozen? ⟨B, 1, none⟩ = false := by rw [← hB]; simp [go_sem]
  have cr2 : ((w.alloc (Obj.cells #[Value.int IntKind.i64 0, Value.int IntKind.i64 0, Value.int IntKind.i64 0] 52)).alloc (Obj.cells #[Value.int IntKind.i64 0, Value.int IntKind.i64 0, Value.int IntKind.i64 0] 52)).cell? ⟨B, 2, none⟩ = some (.int .i64 0) := by rw [← hB]; simp [go_sem]
  have fr2 : ((w.alloc (Obj.cells #[Value.int IntKind.i64 0, Value.int IntKind.i64 0, Value.int IntKind.i64 0] 52)).alloc (Obj.cells #[Value.int IntKind.i64 0, Value.int IntKind.i64 0, Value.int IntKind.i64 0] 52)).frozen? ⟨B, 2, none⟩ = false := by rw [← hB]; simp [go_sem]
  have co0 : ((w.alloc (Obj.cells #[Value.int IntKind.i64 0, Value.int IntKind.i64 0, Value.int IntKind.i64 0] 52)).alloc (Obj.cells #[Value.int IntKind.i64 0, Value.int IntKind.i64 0, Value.int IntKind.i64 0] 52)).cell? ⟨B + 1, 0, none⟩ = some (.int .i64 0) := by rw [← hB]; simp [go_sem]
  have fo0 : ((w.alloc (Obj.cells #[Value.int IntKind.i64 0, Value.int IntKind.i64 0, Value.int IntKind.i64 0] 52)).alloc (Obj.cells #[Value.int IntKind.i64 0, Value.int IntKind.i64 0, Value.int IntKind.i64 0] 52)).frozen? ⟨B + 1, 0, none⟩ = false := by rw [← hB]; simp [go_sem]
  have co1 : ((w.alloc (Obj.cells #[Value.int IntKind.i64 0, Value.int IntKind.i64 0, Value.int IntKind.i64 0] 52)).alloc (Obj.cells #[Value.int IntKind.i64 0, Value.int IntKind.i64 0, Value.int IntKind.i64 0] 52)).cell? ⟨B + 1, 1, none⟩ = some (.int .i64 0) := by rw [← hB]; simp [go_sem]
  have fo1 : ((w.alloc (Obj.cells #[Value.int IntKind.i64 0, Value.int IntKind.i64 0, Value.int IntKind.i64 0] 52)).alloc (Obj.cells #[Value.int IntKind.i64 0, Value.int IntKind.i64 0, Value.int IntKind.i64 0] 52)).frozen? ⟨B + 1, 1, none⟩ = false := by rw [← hB]; simp [go_sem]
  have co2 : ((w.alloc (Obj.cells #[Value.int IntKind.i64 0, Value.int IntKind.i64 0, Value.int IntKind.i64 0] 52)).alloc (Obj.cells #[Value.int IntKind.i64 0, Value.int IntKind.i64 0, Value.int IntKind.i64 0] 52)).cell? ⟨B + 1, 2, none⟩ = some (.int .i64 0) := by rw [← hB]; simp [go_sem]
  have fo2 : ((w.alloc (Obj.cells #[Value.int IntKind.i64 0, Value.int IntKind.i64 0, Value.int IntKind.i64 0] 52)).alloc (Obj.cells #[Value.int IntKind.i64 0, Value.int IntKind.i64 0, Value.int IntKind.i64 0] 52)).frozen? ⟨B + 1, 2, none⟩ = false := by rw [← hB]; simp [go_sem]
  generalize ((w.alloc (Obj.cells #[Value.int IntKind.i64 0, Value.int IntKind.i64 0, Value.int IntKind.i64 0] 52)).alloc (Obj.cells #[Value.int IntKind.i64 0, Value.int IntKind.i64 0, Value.int IntKind.i64 0] 52)) = W1 at *
  have HB1 := Lib.hid hB1
  have HBB := Lib.hid hB
  have hs10 : (W1.setCell ⟨B + 1, 0, none⟩ (.int .i64 x)).cell? ad = some (.int .i64 x) := by
    have h9 := (show Below w.heap.size w (W1.setCell ⟨B + 1, 0, none⟩ (.int .i64 x)) by (repeat (refine Below.setCell ?_ (by show w.heap.size ≤ _; rw [hB]; simp) _)); exact hB1)
    have h8 := (h9.cell (HM 0 x rfl).2).trans (HM 0 x rfl).1
    rw [ad_flat] at h8
    exact h8
  have hs11 : (W1.setCell ⟨B + 1, 0, none⟩ (.int .i64 x)).cell? ⟨ad.block, ad.off + 1, none⟩ = some (.int .i64 y) := by
    have h9 := (show Below w.heap.size w (W1.setCell ⟨B + 1, 0, none⟩ (.int .i64 x)) by (repeat (refine Below.setCell ?_ (by show w.heap.size ≤ _; rw [hB]; simp) _)); exact hB1)
    have h8 := (h9.cell (HM 1 y rfl).2).trans (HM 1 y rfl).1
    rw [show ad.add 1 = ⟨ad.block, ad.off + 1, none⟩ by simp [Addr.add]] at h8
    exact h8
  clear hB1 hmm hB
  cases h0 : withinB x 0 30 with
  | false =>
    rw [h0] at HW0
    go_wp2_with fail
    refine wp_loop_rounds 3 ?_
    rw [rounds_succ]
    go_wp2_with (go_at_call 66; (first | ((with_reducible refine (HWL _).out.mono ?_)) | ((with_reducible refine (HW0 _).out.mono ?_)) | ((with_reducible refine (HW1 _).out.mono ?_))); rintro e w' ⟨rfl, rfl⟩)
    all_goals (refine bodyPost_ret (v := .tuple #[sv 0 0 0, .bool false]) (by simp [results, Try.results45, go_sem, cr0, cr1, cr2]) rfl ⟨by first | rfl | (rw [gd]; rfl) | (rw [gd]; simp), ?_⟩; (repeat (refine Below.setCell ?_ (by show w.heap.size ≤ _; rw [HBB.out]; simp) _)); exact HB1.out)
  | true =>
    rw [h0] at HW0
    cases h1 : withinB y 0 30 with
    | false =>
      rw [h1] at HW1
      go_wp2_with fail
      refine wp_loop_rounds 3 ?_
      rw [rounds_succ]
      go_wp2_with (go_at_call 66; (first | ((with_reducible refine (HWL _).out.mono ?_)) | ((with_reducible refine (HW0 _).out.mono ?_)) | ((with_reducible refine (HW1 _).out.mono ?_))); rintro e w' ⟨rfl, rfl⟩)
      rw [rounds_succ]
      go_wp2_with (go_at_call 66; (first | ((with_reducible refine (HWL _).out.mono ?_)) | ((with_reducible refine (HW0 _).out.mono ?_)) | ((with_reducible refine (HW1 _).out.mono ?_))); rintro e w' ⟨rfl, rfl⟩)
      all_goals (refine bodyPost_ret (v := .tuple #[sv 0 0 0, .bool false]) (by simp [results, Try.results45, go_sem, cr0, cr1, cr2]) rfl ⟨by first | rfl | (rw [gd]; rfl) | (rw [gd]; simp), ?_⟩; (repeat (refine Below.setCell ?_ (by show w.heap.size ≤ _; rw [HBB.out]; simp) _)); exact HB1.out)
    | true =>
      rw [h1] at HW1
      by_cases g1 : x ≤ y
      · have g1' : ¬ x > y := by omega
        go_wp2_with fail
        refine wp_loop_rounds 3 ?_
        rw [rounds_succ]
        go_wp2_with (go_at_call 66; (first | ((with_reducible refine (HWL _).out.mono ?_)) | ((with_reducible refine (HW0 _).out.mono ?_)) | ((with_reducible refine (HW1 _).out.mono ?_))); rintro e w' ⟨rfl, rfl⟩)
        rw [rounds_succ]
        go_wp2_with (go_at_call 66; (first | ((with_reducible refine (HWL _).out.mono ?_)) | ((with_reducible refine (HW0 _).out.mono ?_)) | ((with_reducible refine (HW1 _).out.mono ?_))); rintro e w' ⟨rfl, rfl⟩)
        rw [rounds_succ]
        go_wp2_with (go_at_call 66; (first | ((with_reducible refine (HWL _).out.mono ?_)) | ((with_reducible refine (HW0 _).out.mono ?_)) | ((with_reducible refine (HW1 _).out.mono ?_))); rintro e w' ⟨rfl, rfl⟩)
        all_goals (refine bodyPost_ret (v := .tuple #[sv x y 0, .bool true]) (by simp [results, Try.results45, go_sem, cr0, cr1, cr2]) rfl ⟨by first | rfl | (rw [gd]; rfl) | (rw [gd]; simp), ?_⟩; (repeat (refine Below.setCell ?_ (by show w.heap.size ≤ _; rw [HBB.out]; simp) _)); exact HB1.out)
      · have g1' : x > y := by omega
        have gd := decide_eq_false g1
        go_wp2_with fail
        refine wp_loop_rounds 3 ?_
        rw [rounds_succ]
        go_wp2_with (go_at_call 66; (first | ((with_reducible refine (HWL _).out.mono ?_)) | ((with_reducible refine (HW0 _).out.mono ?_)) | ((with_reducible refine (HW1 _).out.mono ?_))); rintro e w' ⟨rfl, rfl⟩)
        rw [rounds_succ]
        go_wp2_with (go_at_call 66; (first | ((with_reducible refine (HWL _).out.mono ?_)) | ((with_reducible refine (HW0 _).out.mono ?_)) | ((with_reducible refine (HW1 _).out.mono ?_))); rintro e w' ⟨rfl, rfl⟩)
        all_goals (refine bodyPost_ret (v := .tuple #[sv 0 0 0, .bool false]) (by simp [results, Try.results45, go_sem, cr0, cr1, cr2]) rfl ⟨by first | rfl | (rw [gd]; rfl) | (rw [gd]; simp), ?_⟩; (repeat (refine Below.setCell ?_ (by show w.heap.size ≤ _; rw [HBB.out]; simp) _)); exact HB1.out)
set_option maxHeartbeats 8000000 in
set_option maxRecDepth 100000 in
theorem spots3_c (A : Option Addr) (c : Nat) (x y z : Int) (w : World) (hr : Kd.C (Kd.int .i64) w A 3 [x, y, z]) :
    Calls Try.prog 45 #[.slice A 3 c] w fun e w' => e = .returned (.tuple #[if posB [x, y, z] then sv x y z else sv 0 0 0, .bool (posB [x, y, z])]) ∧ Below w.heap.size w w' := by
  obtain ⟨ad, rfl, HM⟩ := mem1 (l := [x, y, z]) hr (by simp)
  have hm0 := (HM 0 x rfl).1
  have hm1 := (HM 1 y rfl).1
  have hm2 := (HM 2 z rfl).1
  have HWL := fun W => Lib.hid (within_c 3 1 3 W)
  have hwl : withinB 3 1 3 = true := by decide
  rw [hwl] at HWL
  clear hwl
  have HW0 := fun W => Lib.hid (within_c x 0 30 W)
  have HW1 := fun W => Lib.hid (within_c y 0 30 W)
  have HW2 := fun W => Lib.hid (within_c z 0 30 W)
  unfold posB
  obtain ⟨B, hB⟩ : ∃ B, w.heap.size = B := ⟨_, rfl⟩
  go_enter Try.func45, Try.ntmps45
  go_upto_region 4 with (go_at_call 66; (first | ((with_reducible refine (HWL _).out.mono ?_)) | ((with_reducible refine (HW0 _).out.mono ?_)) | ((with_reducible refine (HW1 _).out.mono ?_)) | ((with_reducible refine (HW2 _).out.mono ?_))); rintro e w' ⟨rfl, rfl⟩)
  have hB1 : Below w.heap.size w ((w.alloc (Obj.cells #[Value.int IntKind.i64 0, Value.int IntKind.i64 0, Value.int IntKind.i64 0] 52)).alloc (Obj.cells #[Value.int IntKind.i64 0, Value.int IntKind.i64 0, Value.int IntKind.i64 0] 52)) := below_new _ _ (below_new _ _ (Below.refl _ _) _) _
  have hmm : ∀ j v, (ad.add j).block < w.heap.size → w.cell? (ad.add j) = some v → ((w.alloc (Obj.cells #[Value.int IntKind.i64 0, Value.int IntKind.i64 0, Value.int IntKind.i64 0] 52)).alloc (Obj.cells #[Value.int IntKind.i64 0, Value.int IntKind.i64 0, Value.int IntKind.i64 0] 52)).cell? (ad.add j) = some v := fun j v h1 h2 => (hB1.cell h1).trans h2
  replace hm0 := hmm 0 _ (HM 0 x rfl).2 (HM 0 x rfl).1
  replace hm1 := hmm 1 _ (HM 1 y rfl).2 (HM 1 y rfl).1
  replace hm2 := hmm 2 _ (HM 2 z rfl).2 (HM 2 z rfl).1
  rw [ad_flat] at hm0
  rw [show ad.add 1 = ⟨ad.block, ad.off + 1, none⟩ by simp [Addr.add]] at hm1
  rw [show ad.add 2 = ⟨ad.block, ad.off + 2, none⟩ by simp [Addr.add]] at hm2
  have cr0 : ((w.alloc (Obj.cells #[Value.int IntKind.i64 0, Value.int IntKind.i64 0, Value.int IntKind.i64 0] 52)).alloc (Obj.cells #[Value.int IntKind.i64 0, Value.int IntKind.i64 0, Value.int IntKind.i64 0] 52)).cell? ⟨B, 0, none⟩ = some (.int .i64 0) := by rw [← hB]; simp [go_sem]
  have fr0 : ((w.alloc (Obj.cells #[Value.int IntKind.i64 0, Value.int IntKind.i64 0, Value.int IntKind.i64 0] 52)).alloc (Obj.cells #[Value.int IntKind.i64 0, Value.int IntKind.i64 0, Value.int IntKind.i64 0] 52)).frozen? ⟨B, 0, none⟩ = false := by rw [← hB]; simp [go_sem]
  have cr1 : ((w.alloc (Obj.cells #[Value.int IntKind.i64 0, Value.int IntKind.i64 0, Value.int IntKind.i64 0] 52)).alloc (Obj.cells #[Value.int IntKind.i64 0, Value.int IntKind.i64 0, Value.int IntKind.i64 0] 52)).cell? ⟨B, 1, none⟩ = some (.int .i64 0) := by rw [← hB]; simp [go_sem]
  have fr1 : ((w.alloc (Obj.cells #[Value.int IntKind.i64 0, Value.int IntKind.i64 0, Value.int IntKind.i64 0] 52)).alloc (Obj.cells #[Value.int IntKind.i64 0, Value.int IntKind.i64 0, Value.int IntKind.i64 0] 52)).frozen? ⟨B, 1, none⟩ = false := by rw [← hB]; simp [go_sem]
  have cr2 : ((w.alloc (Obj.cells #[Value.int IntKind.i64 0, Value.int IntKind.i64 0, Value.int IntKind.i64 0] 52)).alloc (Obj.cells #[Value.int IntKind.i64 0, Value.int IntKind.i64 0, Value.int IntKind.i64 0] 52)).cell? ⟨B, 2, none⟩ = some (.int .i64 0) := by rw [← hB]; simp [go_sem]
  have fr2 : ((w.alloc (Obj.cells #[Value.int IntKind.i64 0, Value.int IntKind.i64 0, Value.int IntKind.i64 0] 52)).alloc (Obj.cells #[Value.int IntKind.i64 0, Value.int IntKind.i64 0, Value.int IntKind.i64 0] 52)).frozen? ⟨B, 2, none⟩ = false := by rw [← hB]; simp [go_sem]
  have co0 : ((w.alloc (Obj.cells #[Value.int IntKind.i64 0, Value.int IntKind.i64 0, Value.int IntKind.i64 0] 52)).alloc (Obj.cells #[Value.int IntKind.i64 0, Value.int IntKind.i64 0, Value.int IntKind.i64 0] 52)).cell? ⟨B + 1, 0, none⟩ = some (.int .i64 0) := by rw [← hB]; simp [go_sem]
  have fo0 : ((w.alloc (Obj.cells #[Value.int IntKind.i64 0, Value.int IntKind.i64 0, Value.int IntKind.i64 0] 52)).alloc (Obj.cells #[Value.int IntKind.i64 0, Value.int IntKind.i64 0, Value.int IntKind.i64 0] 52)).frozen? ⟨B + 1, 0, none⟩ = false := by rw [← hB]; simp [go_sem]
  have co1 : ((w.alloc (Obj.cells #[Value.int IntKind.i64 0, Value.int IntKind.i64 0, Value.int IntKind.i64 0] 52)).alloc (Obj.cells #[Value.int IntKind.i64 0, Value.int IntKind.i64 0, Value.int IntKind.i64 0] 52)).cell? ⟨B + 1, 1, none⟩ = some (.int .i64 0) := by rw [← hB]; simp [go_sem]
  have fo1 : ((w.alloc (Obj.cells #[Value.int IntKind.i64 0, Value.int IntKind.i64 0, Value.int IntKind.i64 0] 52)).alloc (Obj.cells #[Value.int IntKind.i64 0, Value.int IntKind.i64 0, Value.int IntKind.i64 0] 52)).frozen? ⟨B + 1, 1, none⟩ = false := by rw [← hB]; simp [go_sem]
  have co2 : ((w.alloc (Obj.cells #[Value.int IntKind.i64 0, Value.int IntKind.i64 0, Value.int IntKind.i64 0] 52)).alloc (Obj.cells #[Value.int IntKind.i64 0, Value.int IntKind.i64 0, Value.int IntKind.i64 0] 52)).cell? ⟨B + 1, 2, none⟩ = some (.int .i64 0) := by rw [← hB]; simp [go_sem]
  have fo2 : ((w.alloc (Obj.cells #[Value.int IntKind.i64 0, Value.int IntKind.i64 0, Value.int IntKind.i64 0] 52)).alloc (Obj.cells #[Value.int IntKind.i64 0, Value.int IntKind.i64 0, Value.int IntKind.i64 0] 52)).frozen? ⟨B + 1, 2, none⟩ = false := by rw [← hB]; simp [go_sem]
  generalize ((w.alloc (Obj.cells #[Value.int IntKind.i64 0, Value.int IntKind.i64 0, Value.int IntKind.i64 0] 52)).alloc (Obj.cells #[Value.int IntKind.i64 0, Value.int IntKind.i64 0, Value.int IntKind.i64 0] 52)) = W1 at *
  have HB1 := Lib.hid hB1
  have HBB := Lib.hid hB
  have hs10 : (W1.setCell ⟨B + 1, 0, none⟩ (.int .i64 x)).cell? ad = some (.int .i64 x) := by
    have h9 := (show Below w.heap.size w (W1.setCell ⟨B + 1, 0, none⟩ (.int .i64 x)) by (repeat (refine Below.setCell ?_ (by show w.heap.size ≤ _; rw [hB]; simp) _)); exact hB1)
    have h8 := (h9.cell (HM 0 x rfl).2).trans (HM 0 x rfl).1
    rw [ad_flat] at h8
    exact h8
  have hs11 : (W1.setCell ⟨B + 1, 0, none⟩ (.int .i64 x)).cell? ⟨ad.block, ad.off + 1, none⟩ = some (.int .i64 y) := by
    have h9 := (show Below w.heap.size w (W1.setCell ⟨B + 1, 0, none⟩ (.int .i64 x)) by (repeat (refine Below.setCell ?_ (by show w.heap.size ≤ _; rw [hB]; simp) _)); exact hB1)
    have h8 := (h9.cell (HM 1 y rfl).2).trans (HM 1 y rfl).1
    rw [show ad.add 1 = ⟨ad.block, ad.off + 1, none⟩ by simp [Addr.add]] at h8
    exact h8
  have hs12 : (W1.setCell ⟨B + 1, 0, none⟩ (.int .i64 x)).cell? ⟨ad.block, ad.off + 2, none⟩ = some (.int .i64 z) := by
    have h9 := (show Below w.heap.size w (W1.setCell ⟨B + 1, 0, none⟩ (.int .i64 x)) by (repeat (refine Below.setCell ?_ (by show w.heap.size ≤ _; rw [hB]; simp) _)); exact hB1)
    have h8 := (h9.cell (HM 2 z rfl).2).trans (HM 2 z rfl).1
    rw [show ad.add 2 = ⟨ad.block, ad.off + 2, none⟩ by simp [Addr.add]] at h8
    exact h8
  have hs20 : ((W1.setCell ⟨B + 1, 0, none⟩ (.int .i64 x)).setCell ⟨B + 1, 1, none⟩ (.int .i64 y)).cell? ad = some (.int .i64 x) := by
    have h9 := (show Below w.heap.size w ((W1.setCell ⟨B + 1, 0, none⟩ (.int .i64 x)).setCell ⟨B + 1, 1, none⟩ (.int .i64 y)) by (repeat (refine Below.setCell ?_ (by show w.heap.size ≤ _; rw [hB]; simp) _)); exact hB1)
    have h8 := (h9.cell (HM 0 x rfl).2).trans (HM 0 x rfl).1
    rw [ad_flat] at h8
    exact h8
  have hs21 : ((W1.setCell ⟨B + 1, 0, none⟩ (.int .i64 x)).setCell ⟨B + 1, 1, none⟩ (.int .i64 y)).cell? ⟨ad.block, ad.off + 1, none⟩ = some (.int .i64 y) := by
    have h9 := (show Below w.heap.size w ((W1.setCell ⟨B + 1, 0, none⟩ (.int .i64 x)).setCell ⟨B + 1, 1, none⟩ (.int .i64 y)) by (repeat (refine Below.setCell ?_ (by show w.heap.size ≤ _; rw [hB]; simp) _)); exact hB1)
    have h8 := (h9.cell (HM 1 y rfl).2).trans (HM 1 y rfl).1
    rw [show ad.add 1 = ⟨ad.block, ad.off + 1, none⟩ by simp [Addr.add]] at h8
    exact h8
  have hs22 : ((W1.setCell ⟨B + 1, 0, none⟩ (.int .i64 x)).setCell ⟨B + 1, 1, none⟩ (.int .i64 y)).cell? ⟨ad.block, ad.off + 2, none⟩ = some (.int .i64 z) := by
    have h9 := (show Below w.heap.size w ((W1.setCell ⟨B + 1, 0, none⟩ (.int .i64 x)).setCell ⟨B + 1, 1, none⟩ (.int .i64 y)) by (repeat (refine Below.setCell ?_ (by show w.heap.size ≤ _; rw [hB]; simp) _)); exact hB1)
    have h8 := (h9.cell (HM 2 z rfl).2).trans (HM 2 z rfl).1
    rw [show ad.add 2 = ⟨ad.block, ad.off + 2, none⟩ by simp [Addr.add]] at h8
    exact h8
  clear hB1 hmm hB
  cases h0 : withinB x 0 30 with
  | false =>
    rw [h0] at HW0
    go_wp2_with fail
    refine wp_loop_rounds 4 ?_
    rw [rounds_succ]
    go_wp2_with (go_at_call 66; (first | ((with_reducible refine (HWL _).out.mono ?_)) | ((with_reducible refine (HW0 _).out.mono ?_)) | ((with_reducible refine (HW1 _).out.mono ?_)) | ((with_reducible refine (HW2 _).out.mono ?_))); rintro e w' ⟨rfl, rfl⟩)
    all_goals (refine bodyPost_ret (v := .tuple #[sv 0 0 0, .bool false]) (by simp [results, Try.results45, go_sem, cr0, cr1, cr2]) rfl ⟨by first | rfl | (rw [gd]; rfl) | (rw [gd]; simp), ?_⟩; (repeat (refine Below.setCell ?_ (by show w.heap.size ≤ _; rw [HBB.out]; simp) _)); exact HB1.out)
  | true =>
    rw [h0] at HW0
    cases h1 : withinB y 0 30 with
    | false =>
      rw [h1] at HW1
      go_wp2_with fail
      refine wp_loop_rounds 4 ?_
      rw [rounds_succ]
      go_wp2_with (go_at_call 66; (first | ((with_reducible refine (HWL _).out.mono ?_)) | ((with_reducible refine (HW0 _).out.mono ?_)) | ((with_reducible refine (HW1 _).out.mono ?_)) | ((with_reducible refine (HW2 _).out.mono ?_))); rintro e w' ⟨rfl, rfl⟩)
      rw [rounds_succ]
      go_wp2_with (go_at_call 66; (first | ((with_reducible refine (HWL _).out.mono ?_)) | ((with_reducible refine (HW0 _).out.mono ?_)) | ((with_reducible refine (HW1 _).out.mono ?_)) | ((with_reducible refine (HW2 _).out.mono ?_))); rintro e w' ⟨rfl, rfl⟩)
      all_goals (refine bodyPost_ret (v := .tuple #[sv 0 0 0, .bool false]) (by simp [results, Try.results45, go_sem, cr0, cr1, cr2]) rfl ⟨by first | rfl | (rw [gd]; rfl) | (rw [gd]; simp), ?_⟩; (repeat (refine Below.setCell ?_ (by show w.heap.size ≤ _; rw [HBB.out]; simp) _)); exact HB1.out)
    | true =>
      rw [h1] at HW1
      by_cases g1 : x ≤ y
      · have g1' : ¬ x > y := by omega
        cases h2 : withinB z 0 30 with
        | false =>
          rw [h2] at HW2
          go_wp2_with fail
          refine wp_loop_rounds 4 ?_
          rw [rounds_succ]
          go_wp2_with (go_at_call 66; (first | ((with_reducible refine (HWL _).out.mono ?_)) | ((with_reducible refine (HW0 _).out.mono ?_)) | ((with_reducible refine (HW1 _).out.mono ?_)) | ((with_reducible refine (HW2 _).out.mono ?_))); rintro e w' ⟨rfl, rfl⟩)
          rw [rounds_succ]
          go_wp2_with (go_at_call 66; (first | ((with_reducible refine (HWL _).out.mono ?_)) | ((with_reducible refine (HW0 _).out.mono ?_)) | ((with_reducible refine (HW1 _).out.mono ?_)) | ((with_reducible refine (HW2 _).out.mono ?_))); rintro e w' ⟨rfl, rfl⟩)
          rw [rounds_succ]
          go_wp2_with (go_at_call 66; (first | ((with_reducible refine (HWL _).out.mono ?_)) | ((with_reducible refine (HW0 _).out.mono ?_)) | ((with_reducible refine (HW1 _).out.mono ?_)) | ((with_reducible refine (HW2 _).out.mono ?_))); rintro e w' ⟨rfl, rfl⟩)
          all_goals (refine bodyPost_ret (v := .tuple #[sv 0 0 0, .bool false]) (by simp [results, Try.results45, go_sem, cr0, cr1, cr2]) rfl ⟨by first | rfl | (rw [gd]; rfl) | (rw [gd]; simp), ?_⟩; (repeat (refine Below.setCell ?_ (by show w.heap.size ≤ _; rw [HBB.out]; simp) _)); exact HB1.out)
        | true =>
          rw [h2] at HW2
          by_cases g2 : y ≤ z
          · have g2' : ¬ y > z := by omega
            go_wp2_with fail
            refine wp_loop_rounds 4 ?_
            rw [rounds_succ]
            go_wp2_with (go_at_call 66; (first | ((with_reducible refine (HWL _).out.mono ?_)) | ((with_reducible refine (HW0 _).out.mono ?_)) | ((with_reducible refine (HW1 _).out.mono ?_)) | ((with_reducible refine (HW2 _).out.mono ?_))); rintro e w' ⟨rfl, rfl⟩)
            rw [rounds_succ]
            go_wp2_with (go_at_call 66; (first | ((with_reducible refine (HWL _).out.mono ?_)) | ((with_reducible refine (HW0 _).out.mono ?_)) | ((with_reducible refine (HW1 _).out.mono ?_)) | ((with_reducible refine (HW2 _).out.mono ?_))); rintro e w' ⟨rfl, rfl⟩)
            rw [rounds_succ]
            go_wp2_with (go_at_call 66; (first | ((with_reducible refine (HWL _).out.mono ?_)) | ((with_reducible refine (HW0 _).out.mono ?_)) | ((with_reducible refine (HW1 _).out.mono ?_)) | ((with_reducible refine (HW2 _).out.mono ?_))); rintro e w' ⟨rfl, rfl⟩)
            rw [rounds_succ]
            go_wp2_with (go_at_call 66; (first | ((with_reducible refine (HWL _).out.mono ?_)) | ((with_reducible refine (HW0 _).out.mono ?_)) | ((with_reducible refine (HW1 _).out.mono ?_)) | ((with_reducible refine (HW2 _).out.mono ?_))); rintro e w' ⟨rfl, rfl⟩)
            all_goals (refine bodyPost_ret (v := .tuple #[sv x y z, .bool true]) (by simp [results, Try.results45, go_sem, cr0, cr1, cr2]) rfl ⟨by first | rfl | (rw [gd]; rfl) | (rw [gd]; simp), ?_⟩; (repeat (refine Below.setCell ?_ (by show w.heap.size ≤ _; rw [HBB.out]; simp) _)); exact HB1.out)
          · have g2' : y > z := by omega
            have gd := decide_eq_false g2
            go_wp2_with fail
            refine wp_loop_rounds 4 ?_
            rw [rounds_succ]
            go_wp2_with (go_at_call 66; (first | ((with_reducible refine (HWL _).out.mono ?_)) | ((with_reducible refine (HW0 _).out.mono ?_)) | ((with_reducible refine (HW1 _).out.mono ?_)) | ((with_reducible refine (HW2 _).out.mono ?_))); rintro e w' ⟨rfl, rfl⟩)
            rw [rounds_succ]
            go_wp2_with (go_at_call 66; (first | ((with_reducible refine (HWL _).out.mono ?_)) | ((with_reducible refine (HW0 _).out.mono ?_)) | ((with_reducible refine (HW1 _).out.mono ?_)) | ((with_reducible refine (HW2 _).out.mono ?_))); rintro e w' ⟨rfl, rfl⟩)
            rw [rounds_succ]
            go_wp2_with (go_at_call 66; (first | ((with_reducible refine (HWL _).out.mono ?_)) | ((with_reducible refine (HW0 _).out.mono ?_)) | ((with_reducible refine (HW1 _).out.mono ?_)) | ((with_reducible refine (HW2 _).out.mono ?_))); rintro e w' ⟨rfl, rfl⟩)
            all_goals (refine bodyPost_ret (v := .tuple #[sv 0 0 0, .bool false]) (by simp [results, Try.results45, go_sem, cr0, cr1, cr2]) rfl ⟨by first | rfl | (rw [gd]; rfl) | (rw [gd]; simp), ?_⟩; (repeat (refine Below.setCell ?_ (by show w.heap.size ≤ _; rw [HBB.out]; simp) _)); exact HB1.out)
      · have g1' : x > y := by omega
        have gd := decide_eq_false g1
        go_wp2_with fail
        refine wp_loop_rounds 4 ?_
        rw [rounds_succ]
        go_wp2_with (go_at_call 66; (first | ((with_reducible refine (HWL _).out.mono ?_)) | ((with_reducible refine (HW0 _).out.mono ?_)) | ((with_reducible refine (HW1 _).out.mono ?_)) | ((with_reducible refine (HW2 _).out.mono ?_))); rintro e w' ⟨rfl, rfl⟩)
        rw [rounds_succ]
        go_wp2_with (go_at_call 66; (first | ((with_reducible refine (HWL _).out.mono ?_)) | ((with_reducible refine (HW0 _).out.mono ?_)) | ((with_reducible refine (HW1 _).out.mono ?_)) | ((with_reducible refine (HW2 _).out.mono ?_))); rintro e w' ⟨rfl, rfl⟩)
        all_goals (refine bodyPost_ret (v := .tuple #[sv 0 0 0, .bool false]) (by simp [results, Try.results45, go_sem, cr0, cr1, cr2]) rfl ⟨by first | rfl | (rw [gd]; rfl) | (rw [gd]; simp), ?_⟩; (repeat (refine Below.setCell ?_ (by show w.heap.size ≤ _; rw [HBB.out]; simp) _)); exact HB1.out)
set_option maxHeartbeats 4000000 in
set_option maxRecDepth 100000 in
theorem spotsN_c (A : Option Addr) (c : Nat) (l : List Int) (w : World) (h : withinB l.length 1 3 = false) :
    Calls Try.prog 45 #[.slice A l.length c] w fun e w' => e = .returned (.tuple #[sv 0 0 0, .bool false]) ∧ Below w.heap.size w w' := by
  obtain ⟨n, hn⟩ : ∃ n, l.length = n := ⟨_, rfl⟩
  rw [hn] at h ⊢
  have HWL := fun W => Lib.hid (within_c n 1 3 W)
  rw [h] at HWL
  clear h hn
  obtain ⟨B, hB⟩ : ∃ B, w.heap.size = B := ⟨_, rfl⟩
  go_enter Try.func45, Try.ntmps45
  go_wp2_with (go_at_call 66; (with_reducible refine (HWL _).out.mono ?_); rintro e w' ⟨rfl, rfl⟩)
  all_goals (refine bodyPost_ret (v := .tuple #[sv 0 0 0, .bool false]) (by simp [results, Try.results45, go_sem, hB]) rfl ⟨rfl, ?_⟩; (repeat (refine Below.setCell ?_ (by show w.heap.size ≤ _; rw [hB]; simp) _)); exact below_new _ _ (Below.refl _ _) _)
def pad (l : List Int) : Value := sv (l.getD 0 0) (l.getD 1 0) (l.getD 2 0)
theorem spots_c (A : Option Addr) (c : Nat) (l : List Int) (w : World) (hr : Kd.C (Kd.int .i64) w A l.length l) :
    Calls Try.prog 45 #[.slice A l.length c] w fun e w' => e = .returned (.tuple #[if posB l then pad l else sv 0 0 0, .bool (posB l)]) ∧ Below w.heap.size w w' := by
  match l, hr with
  | [], _ => exact spotsN_c A c [] w (by decide)
  | [x], hr => exact spots1_c A c x w hr
  | [x, y], hr => exact spots2_c A c x y w hr
  | [x, y, z], hr => exact spots3_c A c x y z w hr
  | a :: b :: d :: e :: l, _ => exact spotsN_c A c (a :: b :: d :: e :: l) w (by simp [withinB]; omega)
end Go.Proofs.Ytakbijpcfnipoaa.A

set_option linter.unusedVariables false
set_option linter.unusedSimpArgs false
namespace Go.Proofs.Ytakbijpcfnipoaa.A
open Go.RowKit Go.Proofs.YtakbijpcfnipoaaW.PrintWords Go.Proofs.YtakbijpcfnipoaaW.PrintLast Go.Proofs.YtakbijpcfnipoaaW.PrintMore
open Go.Proofs.Ytakbijpcfnipoaa.PA Go.Proofs.Ytakbijpcfnipoaa.Lf
def callB (c : List Int) : Bool := decide (c.length ≤ 40) && !c.any (outB 0 30)
def hallB (s c : List Int) : Bool := posB s && callB c
set_option maxHeartbeats 8000000 in
set_option maxRecDepth 100000 in
theorem hall_c (A : Option Addr) (ca : Nat) (s : List Int) (C : Option Addr) (cc : Nat) (c : List Int) (w : World) (hr : Kd.C (Kd.int .i64) w A s.length s) (hc : Kd.C (Kd.int .i64) w C c.length c) :
    Calls Try.prog 44 #[.slice A s.length ca, .slice C c.length cc] w fun e w' => e = .returned (.tuple #[if hallB s c then hv s.length (s.getD 0 0) (s.getD 1 0) (s.getD 2 0) (.slice C c.length cc) else hv 0 0 0 0 (.slice none 0 0), .bool (hallB s c)]) ∧ Below w.heap.size w w' := by
  obtain ⟨n, hn⟩ : ∃ n, s.length = n := ⟨_, rfl⟩
  obtain ⟨m, hm⟩ : ∃ m, c.length = m := ⟨_, rfl⟩
  obtain ⟨x0, h0⟩ : ∃ x, s.getD 0 0 = x := ⟨_, rfl⟩
  obtain ⟨x1, h1⟩ : ∃ x, s.getD 1 0 = x := ⟨_, rfl⟩
  obtain ⟨x2, h2⟩ : ∃ x, s.getD 2 0 = x := ⟨_, rfl⟩
  obtain ⟨B, hB⟩ : ∃ B, w.heap.size = B := ⟨_, rfl⟩
  have HS : Hid (∀ W, Below w.heap.size w W → Calls Try.prog 45 #[.slice A n ca] W fun e w' => e = .returned (.tuple #[if posB s then sv x0 x1 x2 else sv 0 0 0, .bool (posB s)]) ∧ Below W.heap.size W w') := Lib.hid (fun W hW => by
    have := spots_c A ca s W (Kd.C_below hr hW)
    rw [hn] at this
    rw [← h0, ← h1, ← h2]
    exact this)
  have HC : Hid (∀ W, Below w.heap.size w W → Calls Try.prog 64 #[.slice C m cc, .func (.func 65) #[] #[]] W fun e w' => e = .returned (.bool (c.any (outB 0 30))) ∧ Below W.heap.size W w') := Lib.hid (fun W hW => by
    have := hasInt_c 65 #[] (outB 0 30) C cc c W enters65 (out65 W) (Kd.C_below hc hW)
    rwa [hm] at this)
  unfold hallB callB
  rw [hn, hm, h0, h1, h2]
  clear hr hc h0 h1 h2 hn
  obtain ⟨b1, e1⟩ : ∃ b, posB s = b := ⟨_, rfl⟩
  obtain ⟨b3, e3⟩ : ∃ b, c.any (outB 0 30) = b := ⟨_, rfl⟩
  rw [e1] at HS ⊢
  rw [e3] at HC ⊢
  clear e1 e3 hm
  cases b1
  · go_enter Try.func44, Try.ntmps44
    go_upto_region 1 with fail
    have hB1 : Below w.heap.size w (w.alloc (Obj.cells #[Value.int IntKind.i64 0, Value.int IntKind.i64 0, Value.int IntKind.i64 0, Value.int IntKind.i64 0, Value.slice none 0 0] 54)) := below_new _ _ (Below.refl _ _) _
    have hz1 : (w.alloc (Obj.cells #[Value.int IntKind.i64 0, Value.int IntKind.i64 0, Value.int IntKind.i64 0, Value.int IntKind.i64 0, Value.slice none 0 0] 54)).heap.size = B + 1 := by simp [hB]
    have cr0 : (w.alloc (Obj.cells #[Value.int IntKind.i64 0, Value.int IntKind.i64 0, Value.int IntKind.i64 0, Value.int IntKind.i64 0, Value.slice none 0 0] 54)).cell? ⟨B, 0, none⟩ = some (.int .i64 0) := by rw [← hB]; simp [go_sem]
    have fr0 : (w.alloc (Obj.cells #[Value.int IntKind.i64 0, Value.int IntKind.i64 0, Value.int IntKind.i64 0, Value.int IntKind.i64 0, Value.slice none 0 0] 54)).frozen? ⟨B, 0, none⟩ = false := by rw [← hB]; simp [go_sem]
    have cr1 : (w.alloc (Obj.cells #[Value.int IntKind.i64 0, Value.int IntKind.i64 0, Value.int IntKind.i64 0, Value.int IntKind.i64 0, Value.slice none 0 0] 54)).cell? ⟨B, 1, none⟩ = some (.int .i64 0) := by rw [← hB]; simp [go_sem]
    have fr1 : (w.alloc (Obj.cells #[Value.int IntKind.i64 0, Value.int IntKind.i64 0, Value.int IntKind.i64 0, Value.int IntKind.i64 0, Value.slice none 0 0] 54)).frozen? ⟨B, 1, none⟩ = false := by rw [← hB]; simp [go_sem]
    have cr2 : (w.alloc (Obj.cells #[Value.int IntKind.i64 0, Value.int IntKind.i64 0, Value.int IntKind.i64 0, Value.int IntKind.i64 0, Value.slice none 0 0] 54)).cell? ⟨B, 2, none⟩ = some (.int .i64 0) := by rw [← hB]; simp [go_sem]
    have fr2 : (w.alloc (Obj.cells #[Value.int IntKind.i64 0, Value.int IntKind.i64 0, Value.int IntKind.i64 0, Value.int IntKind.i64 0, Value.slice none 0 0] 54)).frozen? ⟨B, 2, none⟩ = false := by rw [← hB]; simp [go_sem]
    have cr3 : (w.alloc (Obj.cells #[Value.int IntKind.i64 0, Value.int IntKind.i64 0, Value.int IntKind.i64 0, Value.int IntKind.i64 0, Value.slice none 0 0] 54)).cell? ⟨B, 3, none⟩ = some (.int .i64 0) := by rw [← hB]; simp [go_sem]
    have fr3 : (w.alloc (Obj.cells #[Value.int IntKind.i64 0, Value.int IntKind.i64 0, Value.int IntKind.i64 0, Value.int IntKind.i64 0, Value.slice none 0 0] 54)).frozen? ⟨B, 3, none⟩ = false := by rw [← hB]; simp [go_sem]
    have cr4 : (w.alloc (Obj.cells #[Value.int IntKind.i64 0, Value.int IntKind.i64 0, Value.int IntKind.i64 0, Value.int IntKind.i64 0, Value.slice none 0 0] 54)).cell? ⟨B, 4, none⟩ = some (.slice none 0 0) := by rw [← hB]; simp [go_sem]
    have fr4 : (w.alloc (Obj.cells #[Value.int IntKind.i64 0, Value.int IntKind.i64 0, Value.int IntKind.i64 0, Value.int IntKind.i64 0, Value.slice none 0 0] 54)).frozen? ⟨B, 4, none⟩ = false := by rw [← hB]; simp [go_sem]
    generalize (w.alloc (Obj.cells #[Value.int IntKind.i64 0, Value.int IntKind.i64 0, Value.int IntKind.i64 0, Value.int IntKind.i64 0, Value.slice none 0 0] 54)) = W1 at *
    go_upto_region 2 with (go_at_call 45; (with_reducible refine (HS.out _ hB1).mono ?_); rintro e w2 ⟨rfl, hb⟩)
    have hW2 : ∀ o, Below W1.heap.size W1 (w2.alloc o) := fun o => hb.alloc hb.size o
    have hz2 : w2.heap.size ≥ B + 1 := by have := hb.size; omega
    have hB2 : Below W1.heap.size W1 (w2.alloc (Obj.cells #[Value.int IntKind.i64 0, Value.int IntKind.i64 0, Value.int IntKind.i64 0] 52)) := hW2 _
    replace cr0 := (hB2.cell (p := ⟨B, 0, none⟩) (by show B < _; omega)).trans cr0
    replace fr0 := (World.frozen?_of_block (a := ⟨B, 0, none⟩) (hB2.block B (by omega))).trans fr0
    replace cr1 := (hB2.cell (p := ⟨B, 1, none⟩) (by show B < _; omega)).trans cr1
    replace fr1 := (World.frozen?_of_block (a := ⟨B, 1, none⟩) (hB2.block B (by omega))).trans fr1
    replace cr2 := (hB2.cell (p := ⟨B, 2, none⟩) (by show B < _; omega)).trans cr2
    replace fr2 := (World.frozen?_of_block (a := ⟨B, 2, none⟩) (hB2.block B (by omega))).trans fr2
    replace cr3 := (hB2.cell (p := ⟨B, 3, none⟩) (by show B < _; omega)).trans cr3
    replace fr3 := (World.frozen?_of_block (a := ⟨B, 3, none⟩) (hB2.block B (by omega))).trans fr3
    replace cr4 := (hB2.cell (p := ⟨B, 4, none⟩) (by show B < _; omega)).trans cr4
    replace fr4 := (World.frozen?_of_block (a := ⟨B, 4, none⟩) (hB2.block B (by omega))).trans fr4
    have cs : ((w2.alloc (Obj.cells #[Value.int IntKind.i64 0, Value.int IntKind.i64 0, Value.int IntKind.i64 0] 52)).cell? ⟨w2.heap.size, 0, none⟩ = some (.int .i64 0) ∧ (w2.alloc (Obj.cells #[Value.int IntKind.i64 0, Value.int IntKind.i64 0, Value.int IntKind.i64 0] 52)).cell? ⟨w2.heap.size, 1, none⟩ = some (.int .i64 0)) ∧ (w2.alloc (Obj.cells #[Value.int IntKind.i64 0, Value.int IntKind.i64 0, Value.int IntKind.i64 0] 52)).cell? ⟨w2.heap.size, 2, none⟩ = some (.int .i64 0) := by refine ⟨⟨?_, ?_⟩, ?_⟩ <;> simp [go_sem]
    obtain ⟨⟨cs0, cs1⟩, cs2⟩ := cs
    obtain ⟨B2, hB2e⟩ : ∃ B2, w2.heap.size = B2 := ⟨_, rfl⟩
    rw [hB2e] at cs0 cs1 cs2 hz2 ⊢
    generalize (w2.alloc (Obj.cells #[Value.int IntKind.i64 0, Value.int IntKind.i64 0, Value.int IntKind.i64 0] 52)) = W3 at *
    have hne : B2 ≠ B := by omega
    have HB3 := Lib.hid (hB1.trans (hB2.mono hB1.size))
    have HBB := Lib.hid hB
    clear hW2 hb hB1 hB2 hB hz1 hB2e
    go_wp2_with fail
    all_goals (refine bodyPost_ret (v := .tuple #[hv 0 0 0 0 (.slice none 0 0), .bool false]) (by simp [results, Try.results44, go_sem, cr0, cr1, cr2, cr3, cr4]) rfl ⟨by first | rfl | simp [*], ?_⟩; (repeat (refine Below.setCell ?_ (by show w.heap.size ≤ _; rw [HBB.out]; exact Nat.le_refl _) _)); exact HB3.out)
  · by_cases h40 : m ≤ 40
    · have h41 : ¬ ((m : Int) > 40) := by omega
      have h42 := decide_eq_true h40
      cases b3
      · go_enter Try.func44, Try.ntmps44
        go_upto_region 1 with fail
        have hB1 : Below w.heap.size w (w.alloc (Obj.cells #[Value.int IntKind.i64 0, Value.int IntKind.i64 0, Value.int IntKind.i64 0, Value.int IntKind.i64 0, Value.slice none 0 0] 54)) := below_new _ _ (Below.refl _ _) _
        have hz1 : (w.alloc (Obj.cells #[Value.int IntKind.i64 0, Value.int IntKind.i64 0, Value.int IntKind.i64 0, Value.int IntKind.i64 0, Value.slice none 0 0] 54)).heap.size = B + 1 := by simp [hB]
        have cr0 : (w.alloc (Obj.cells #[Value.int IntKind.i64 0, Value.int IntKind.i64 0, Value.int IntKind.i64 0, Value.int IntKind.i64 0, Value.slice none 0 0] 54)).cell? ⟨B, 0, none⟩ = some (.int .i64 0) := by rw [← hB]; simp [go_sem]
        have fr0 : (w.alloc (Obj.cells #[Value.int IntKind.i64 0, Value.int IntKind.i64 0, Value.int IntKind.i64 0, Value.int IntKind.i64 0, Value.slice none 0 0] 54)).frozen? ⟨B, 0, none⟩ = false := by rw [← hB]; simp [go_sem]
        have cr1 : (w.alloc (Obj.cells #[Value.int IntKind.i64 0, Value.int IntKind.i64 0, Value.int IntKind.i64 0, Value.int IntKind.i64 0, Value.slice none 0 0] 54)).cell? ⟨B, 1, none⟩ = some (.int .i64 0) := by rw [← hB]; simp [go_sem]
        have fr1 : (w.alloc (Obj.cells #[Value.int IntKind.i64 0, Value.int IntKind.i64 0, Value.int IntKind.i64 0, Value.int IntKind.i64 0, Value.slice none 0 0] 54)).frozen? ⟨B, 1, none⟩ = false := by rw [← hB]; simp [go_sem]
        have cr2 : (w.alloc (Obj.cells #[Value.int IntKind.i64 0, Value.int IntKind.i64 0, Value.int IntKind.i64 0, Value.int IntKind.i64 0, Value.slice none 0 0] 54)).cell? ⟨B, 2, none⟩ = some (.int .i64 0) := by rw [← hB]; simp [go_sem]
        have fr2 : (w.alloc (Obj.cells #[Value.int IntKind.i64 0, Value.int IntKind.i64 0, Value.int IntKind.i64 0, Value.int IntKind.i64 0, Value.slice none 0 0] 54)).frozen? ⟨B, 2, none⟩ = false := by rw [← hB]; simp [go_sem]
        have cr3 : (w.alloc (Obj.cells #[Value.int IntKind.i64 0, Value.int IntKind.i64 0, Value.int IntKind.i64 0, Value.int IntKind.i64 0, Value.slice none 0 0] 54)).cell? ⟨B, 3, none⟩ = some (.int .i64 0) := by rw [← hB]; simp [go_sem]
        have fr3 : (w.alloc (Obj.cells #[Value.int IntKind.i64 0, Value.int IntKind.i64 0, Value.int IntKind.i64 0, Value.int IntKind.i64 0, Value.slice none 0 0] 54)).frozen? ⟨B, 3, none⟩ = false := by rw [← hB]; simp [go_sem]
        have cr4 : (w.alloc (Obj.cells #[Value.int IntKind.i64 0, Value.int IntKind.i64 0, Value.int IntKind.i64 0, Value.int IntKind.i64 0, Value.slice none 0 0] 54)).cell? ⟨B, 4, none⟩ = some (.slice none 0 0) := by rw [← hB]; simp [go_sem]
        have fr4 : (w.alloc (Obj.cells #[Value.int IntKind.i64 0, Value.int IntKind.i64 0, Value.int IntKind.i64 0, Value.int IntKind.i64 0, Value.slice none 0 0] 54)).frozen? ⟨B, 4, none⟩ = false := by rw [← hB]; simp [go_sem]
        generalize (w.alloc (Obj.cells #[Value.int IntKind.i64 0, Value.int IntKind.i64 0, Value.int IntKind.i64 0, Value.int IntKind.i64 0, Value.slice none 0 0] 54)) = W1 at *
        go_upto_region 2 with (go_at_call 45; (with_reducible refine (HS.out _ hB1).mono ?_); rintro e w2 ⟨rfl, hb⟩)
        have hW2 : ∀ o, Below W1.heap.size W1 (w2.alloc o) := fun o => hb.alloc hb.size o
        have hz2 : w2.heap.size ≥ B + 1 := by have := hb.size; omega
        have hB2 : Below W1.heap.size W1 (w2.alloc (Obj.cells #[Value.int IntKind.i64 x0, Value.int IntKind.i64 x1, Value.int IntKind.i64 x2] 52)) := hW2 _
        replace cr0 := (hB2.cell (p := ⟨B, 0, none⟩) (by show B < _; omega)).trans cr0
        replace fr0 := (World.frozen?_of_block (a := ⟨B, 0, none⟩) (hB2.block B (by omega))).trans fr0
        replace cr1 := (hB2.cell (p := ⟨B, 1, none⟩) (by show B < _; omega)).trans cr1
        replace fr1 := (World.frozen?_of_block (a := ⟨B, 1, none⟩) (hB2.block B (by omega))).trans fr1
        replace cr2 := (hB2.cell (p := ⟨B, 2, none⟩) (by show B < _; omega)).trans cr2
        replace fr2 := (World.frozen?_of_block (a := ⟨B, 2, none⟩) (hB2.block B (by omega))).trans fr2
        replace cr3 := (hB2.cell (p := ⟨B, 3, none⟩) (by show B < _; omega)).trans cr3
        replace fr3 := (World.frozen?_of_block (a := ⟨B, 3, none⟩) (hB2.block B (by omega))).trans fr3
        replace cr4 := (hB2.cell (p := ⟨B, 4, none⟩) (by show B < _; omega)).trans cr4
        replace fr4 := (World.frozen?_of_block (a := ⟨B, 4, none⟩) (hB2.block B (by omega))).trans fr4
        have cs : ((w2.alloc (Obj.cells #[Value.int IntKind.i64 x0, Value.int IntKind.i64 x1, Value.int IntKind.i64 x2] 52)).cell? ⟨w2.heap.size, 0, none⟩ = some (.int .i64 x0) ∧ (w2.alloc (Obj.cells #[Value.int IntKind.i64 x0, Value.int IntKind.i64 x1, Value.int IntKind.i64 x2] 52)).cell? ⟨w2.heap.size, 1, none⟩ = some (.int .i64 x1)) ∧ (w2.alloc (Obj.cells #[Value.int IntKind.i64 x0, Value.int IntKind.i64 x1, Value.int IntKind.i64 x2] 52)).cell? ⟨w2.heap.size, 2, none⟩ = some (.int .i64 x2) := by refine ⟨⟨?_, ?_⟩, ?_⟩ <;> simp [go_sem]
        obtain ⟨⟨cs0, cs1⟩, cs2⟩ := cs
        obtain ⟨B2, hB2e⟩ : ∃ B2, w2.heap.size = B2 := ⟨_, rfl⟩
        rw [hB2e] at cs0 cs1 cs2 hz2 ⊢
        generalize (w2.alloc (Obj.cells #[Value.int IntKind.i64 x0, Value.int IntKind.i64 x1, Value.int IntKind.i64 x2] 52)) = W3 at *
        have hne : B2 ≠ B := by omega
        have HB3 := Lib.hid (hB1.trans (hB2.mono hB1.size))
        have HBB := Lib.hid hB
        clear hW2 hb hB1 hB2 hB hz1 hB2e
        have hz3 : B < W3.heap.size := World.block_lt_of_cell? _ ⟨B, 0, none⟩ cr0
        go_upto_region 4 with (go_at_call 64; (with_reducible refine (HC.out _ HB3.out).mono ?_); rintro e w4 ⟨rfl, hb4⟩)
        replace cr0 := (hb4.cell (p := ⟨B, 0, none⟩) (by show B < _; omega)).trans cr0
        replace fr0 := (World.frozen?_of_block (a := ⟨B, 0, none⟩) (hb4.block B (by omega))).trans fr0
        replace cr1 := (hb4.cell (p := ⟨B, 1, none⟩) (by show B < _; omega)).trans cr1
        replace fr1 := (World.frozen?_of_block (a := ⟨B, 1, none⟩) (hb4.block B (by omega))).trans fr1
        replace cr2 := (hb4.cell (p := ⟨B, 2, none⟩) (by show B < _; omega)).trans cr2
        replace fr2 := (World.frozen?_of_block (a := ⟨B, 2, none⟩) (hb4.block B (by omega))).trans fr2
        replace cr3 := (hb4.cell (p := ⟨B, 3, none⟩) (by show B < _; omega)).trans cr3
        replace fr3 := (World.frozen?_of_block (a := ⟨B, 3, none⟩) (hb4.block B (by omega))).trans fr3
        replace cr4 := (hb4.cell (p := ⟨B, 4, none⟩) (by show B < _; omega)).trans cr4
        replace fr4 := (World.frozen?_of_block (a := ⟨B, 4, none⟩) (hb4.block B (by omega))).trans fr4
        replace cs0 := (hb4.cell (p := ⟨B2, 0, none⟩) (World.block_lt_of_cell? _ _ cs0)).trans cs0
        replace cs1 := (hb4.cell (p := ⟨B2, 1, none⟩) (World.block_lt_of_cell? _ _ cs1)).trans cs1
        replace cs2 := (hb4.cell (p := ⟨B2, 2, none⟩) (World.block_lt_of_cell? _ _ cs2)).trans cs2
        replace HB3 := Lib.hid (HB3.out.trans (hb4.mono HB3.out.size))
        clear hb4
        go_wp2_with fail
        all_goals (refine bodyPost_ret (v := .tuple #[hv n x0 x1 x2 (.slice C m cc), .bool true]) (by simp [results, Try.results44, go_sem, cr0, cr1, cr2, cr3, cr4]) rfl ⟨by first | rfl | simp [*], ?_⟩; (repeat (refine Below.setCell ?_ (by show w.heap.size ≤ _; rw [HBB.out]; exact Nat.le_refl _) _)); exact HB3.out)
      · go_enter Try.func44, Try.ntmps44
        go_upto_region 1 with fail
        have hB1 : Below w.heap.size w (w.alloc (Obj.cells #[Value.int IntKind.i64 0, Value.int IntKind.i64 0, Value.int IntKind.i64 0, Value.int IntKind.i64 0, Value.slice none 0 0] 54)) := below_new _ _ (Below.refl _ _) _
        have hz1 : (w.alloc (Obj.cells #[Value.int IntKind.i64 0, Value.int IntKind.i64 0, Value.int IntKind.i64 0, Value.int IntKind.i64 0, Value.slice none 0 0] 54)).heap.size = B + 1 := by simp [hB]
        have cr0 : (w.alloc (Obj.cells #[Value.int IntKind.i64 0, Value.int IntKind.i64 0, Value.int IntKind.i64 0, Value.int IntKind.i64 0, Value.slice none 0 0] 54)).cell? ⟨B, 0, none⟩ = some (.int .i64 0) := by rw [← hB]; simp [go_sem]
        have fr0 : (w.alloc (Obj.cells #[Value.int IntKind.i64 0, Value.int IntKind.i64 0, Value.int IntKind.i64 0, Value.int IntKind.i64 0, Value.slice none 0 0] 54)).frozen? ⟨B, 0, none⟩ = false := by rw [← hB]; simp [go_sem]
        have cr1 : (w.alloc (Obj.cells #[Value.int IntKind.i64 0, Value.int IntKind.i64 0, Value.int IntKind.i64 0, Value.int IntKind.i64 0, Value.slice none 0 0] 54)).cell? ⟨B, 1, none⟩ = some (.int .i64 0) := by rw [← hB]; simp [go_sem]
        have fr1 : (w.alloc (Obj.cells #[Value.int IntKind.i64 0, Value.int IntKind.i64 0, Value.int IntKind.i64 0, Value.int IntKind.i64 0, Value.slice none 0 0] 54)).frozen? ⟨B, 1, none⟩ = false := by rw [← hB]; simp [go_sem]
        have cr2 : (w.alloc (Obj.cells #[Value.int IntKind.i64 0, Value.int IntKind.i64 0, Value.int IntKind.i64 0, Value.int IntKind.i64 0, Value.slice none 0 0] 54)).cell? ⟨B, 2, none⟩ = some (.int .i64 0) := by rw [← hB]; simp [go_sem]
        have fr2 : (w.alloc (Obj.cells #[Value.int IntKind.i64 0, Value.int IntKind.i64 0, Value.int IntKind.i64 0, Value.int IntKind.i64 0, Value.slice none 0 0] 54)).frozen? ⟨B, 2, none⟩ = false := by rw [← hB]; simp [go_sem]
        have cr3 : (w.alloc (Obj.cells #[Value.int IntKind.i64 0, Value.int IntKind.i64 0, Value.int IntKind.i64 0, Value.int IntKind.i64 0, Value.slice none 0 0] 54)).cell? ⟨B, 3, none⟩ = some (.int .i64 0) := by rw [← hB]; simp [go_sem]
        have fr3 : (w.alloc (Obj.cells #[Value.int IntKind.i64 0, Value.int IntKind.i64 0, Value.int IntKind.i64 0, Value.int IntKind.i64 0, Value.slice none 0 0] 54)).frozen? ⟨B, 3, none⟩ = false := by rw [← hB]; simp [go_sem]
        have cr4 : (w.alloc (Obj.cells #[Value.int IntKind.i64 0, Value.int IntKind.i64 0, Value.int IntKind.i64 0, Value.int IntKind.i64 0, Value.slice none 0 0] 54)).cell? ⟨B, 4, none⟩ = some (.slice none 0 0) := by rw [← hB]; simp [go_sem]
        have fr4 : (w.alloc (Obj.cells #[Value.int IntKind.i64 0, Value.int IntKind.i64 0, Value.int IntKind.i64 0, Value.int IntKind.i64 0, Value.slice none 0 0] 54)).frozen? ⟨B, 4, none⟩ = false := by rw [← hB]; simp [go_sem]
        generalize (w.alloc (Obj.cells #[Value.int IntKind.i64 0, Value.int IntKind.i64 0, Value.int IntKind.i64 0, Value.int IntKind.i64 0, Value.slice none 0 0] 54)) = W1 at *
        go_upto_region 2 with (go_at_call 45; (with_reducible refine (HS.out _ hB1).mono ?_); rintro e w2 ⟨rfl, hb⟩)
        have hW2 : ∀ o, Below W1.heap.size W1 (w2.alloc o) := fun o => hb.alloc hb.size o
        have hz2 : w2.heap.size ≥ B + 1 := by have := hb.size; omega
        have hB2 : Below W1.heap.size W1 (w2.alloc (Obj.cells #[Value.int IntKind.i64 x0, Value.int IntKind.i64 x1, Value.int IntKind.i64 x2] 52)) := hW2 _
        replace cr0 := (hB2.cell (p := ⟨B, 0, none⟩) (by show B < _; omega)).trans cr0
        replace fr0 := (World.frozen?_of_block (a := ⟨B, 0, none⟩) (hB2.block B (by omega))).trans fr0
        replace cr1 := (hB2.cell (p := ⟨B, 1, none⟩) (by show B < _; omega)).trans cr1
        replace fr1 := (World.frozen?_of_block (a := ⟨B, 1, none⟩) (hB2.block B (by omega))).trans fr1
        replace cr2 := (hB2.cell (p := ⟨B, 2, none⟩) (by show B < _; omega)).trans cr2
        replace fr2 := (World.frozen?_of_block (a := ⟨B, 2, none⟩) (hB2.block B (by omega))).trans fr2
        replace cr3 := (hB2.cell (p := ⟨B, 3, none⟩) (by show B < _; omega)).trans cr3
        replace fr3 := (World.frozen?_of_block (a := ⟨B, 3, none⟩) (hB2.block B (by omega))).trans fr3
        replace cr4 := (hB2.cell (p := ⟨B, 4, none⟩) (by show B < _; omega)).trans cr4
        replace fr4 := (World.frozen?_of_block (a := ⟨B, 4, none⟩) (hB2.block B (by omega))).trans fr4
        have cs : ((w2.alloc (Obj.cells #[Value.int IntKind.i64 x0, Value.int IntKind.i64 x1, Value.int IntKind.i64 x2] 52)).cell? ⟨w2.heap.size, 0, none⟩ = some (.int .i64 x0) ∧ (w2.alloc (Obj.cells #[Value.int IntKind.i64 x0, Value.int IntKind.i64 x1, Value.int IntKind.i64 x2] 52)).cell? ⟨w2.heap.size, 1, none⟩ = some (.int .i64 x1)) ∧ (w2.alloc (Obj.cells #[Value.int IntKind.i64 x0, Value.int IntKind.i64 x1, Value.int IntKind.i64 x2] 52)).cell? ⟨w2.heap.size, 2, none⟩ = some (.int .i64 x2) := by refine ⟨⟨?_, ?_⟩, ?_⟩ <;> simp [go_sem]
        obtain ⟨⟨cs0, cs1⟩, cs2⟩ := cs
        obtain ⟨B2, hB2e⟩ : ∃ B2, w2.heap.size = B2 := ⟨_, rfl⟩
        rw [hB2e] at cs0 cs1 cs2 hz2 ⊢
        generalize (w2.alloc (Obj.cells #[Value.int IntKind.i64 x0, Value.int IntKind.i64 x1, Value.int IntKind.i64 x2] 52)) = W3 at *
        have hne : B2 ≠ B := by omega
        have HB3 := Lib.hid (hB1.trans (hB2.mono hB1.size))
        have HBB := Lib.hid hB
        clear hW2 hb hB1 hB2 hB hz1 hB2e
        have hz3 : B < W3.heap.size := World.block_lt_of_cell? _ ⟨B, 0, none⟩ cr0
        go_upto_region 3 with (go_at_call 64; (with_reducible refine (HC.out _ HB3.out).mono ?_); rintro e w4 ⟨rfl, hb4⟩)
        replace cr0 := (hb4.cell (p := ⟨B, 0, none⟩) (by show B < _; omega)).trans cr0
        replace fr0 := (World.frozen?_of_block (a := ⟨B, 0, none⟩) (hb4.block B (by omega))).trans fr0
        replace cr1 := (hb4.cell (p := ⟨B, 1, none⟩) (by show B < _; omega)).trans cr1
        replace fr1 := (World.frozen?_of_block (a := ⟨B, 1, none⟩) (hb4.block B (by omega))).trans fr1
        replace cr2 := (hb4.cell (p := ⟨B, 2, none⟩) (by show B < _; omega)).trans cr2
        replace fr2 := (World.frozen?_of_block (a := ⟨B, 2, none⟩) (hb4.block B (by omega))).trans fr2
        replace cr3 := (hb4.cell (p := ⟨B, 3, none⟩) (by show B < _; omega)).trans cr3
        replace fr3 := (World.frozen?_of_block (a := ⟨B, 3, none⟩) (hb4.block B (by omega))).trans fr3
        replace cr4 := (hb4.cell (p := ⟨B, 4, none⟩) (by show B < _; omega)).trans cr4
        replace fr4 := (World.frozen?_of_block (a := ⟨B, 4, none⟩) (hb4.block B (by omega))).trans fr4
        replace cs0 := (hb4.cell (p := ⟨B2, 0, none⟩) (World.block_lt_of_cell? _ _ cs0)).trans cs0
        replace cs1 := (hb4.cell (p := ⟨B2, 1, none⟩) (World.block_lt_of_cell? _ _ cs1)).trans cs1
        replace cs2 := (hb4.cell (p := ⟨B2, 2, none⟩) (World.block_lt_of_cell? _ _ cs2)).trans cs2
        replace HB3 := Lib.hid (HB3.out.trans (hb4.mono HB3.out.size))
        clear hb4
        go_wp2_with fail
        all_goals (refine bodyPost_ret (v := .tuple #[hv 0 0 0 0 (.slice none 0 0), .bool false]) (by simp [results, Try.results44, go_sem, cr0, cr1, cr2, cr3, cr4]) rfl ⟨by first | rfl | simp [*], ?_⟩; (repeat (refine Below.setCell ?_ (by show w.heap.size ≤ _; rw [HBB.out]; exact Nat.le_refl _) _)); exact HB3.out)
    · have h41 : (m : Int) > 40 := by omega
      have h42 := decide_eq_false h40
      go_enter Try.func44, Try.ntmps44
      go_upto_region 1 with fail
      have hB1 : Below w.heap.size w (w.alloc (Obj.cells #[Value.int IntKind.i64 0, Value.int IntKind.i64 0, Value.int IntKind.i64 0, Value.int IntKind.i64 0, Value.slice none 0 0] 54)) := below_new _ _ (Below.refl _ _) _
      have hz1 : (w.alloc (Obj.cells #[Value.int IntKind.i64 0, Value.int IntKind.i64 0, Value.int IntKind.i64 0, Value.int IntKind.i64 0, Value.slice none 0 0] 54)).heap.size = B + 1 := by simp [hB]
      have cr0 : (w.alloc (Obj.cells #[Value.int IntKind.i64 0, Value.int IntKind.i64 0, Value.int IntKind.i64 0, Value.int IntKind.i64 0, Value.slice none 0 0] 54)).cell? ⟨B, 0, none⟩ = some (.int .i64 0) := by rw [← hB]; simp [go_sem]
      have fr0 : (w.alloc (Obj.cells #[Value.int IntKind.i64 0, Value.int IntKind.i64 0, Value.int IntKind.i64 0, Value.int IntKind.i64 0, Value.slice none 0 0] 54)).frozen? ⟨B, 0, none⟩ = false := by rw [← hB]; simp [go_sem]
      have cr1 : (w.alloc (Obj.cells #[Value.int IntKind.i64 0, Value.int IntKind.i64 0, Value.int IntKind.i64 0, Value.int IntKind.i64 0, Value.slice none 0 0] 54)).cell? ⟨B, 1, none⟩ = some (.int .i64 0) := by rw [← hB]; simp [go_sem]
      have fr1 : (w.alloc (Obj.cells #[Value.int IntKind.i64 0, Value.int IntKind.i64 0, Value.int IntKind.i64 0, Value.int IntKind.i64 0, Value.slice none 0 0] 54)).frozen? ⟨B, 1, none⟩ = false := by rw [← hB]; simp [go_sem]
      have cr2 : (w.alloc (Obj.cells #[Value.int IntKind.i64 0, Value.int IntKind.i64 0, Value.int IntKind.i64 0, Value.int IntKind.i64 0, Value.slice none 0 0] 54)).cell? ⟨B, 2, none⟩ = some (.int .i64 0) := by rw [← hB]; simp [go_sem]
      have fr2 : (w.alloc (Obj.cells #[Value.int IntKind.i64 0, Value.int IntKind.i64 0, Value.int IntKind.i64 0, Value.int IntKind.i64 0, Value.slice none 0 0] 54)).frozen? ⟨B, 2, none⟩ = false := by rw [← hB]; simp [go_sem]
      have cr3 : (w.alloc (Obj.cells #[Value.int IntKind.i64 0, Value.int IntKind.i64 0, Value.int IntKind.i64 0, Value.int IntKind.i64 0, Value.slice none 0 0] 54)).cell? ⟨B, 3, none⟩ = some (.int .i64 0) := by rw [← hB]; simp [go_sem]
      have fr3 : (w.alloc (Obj.cells #[Value.int IntKind.i64 0, Value.int IntKind.i64 0, Value.int IntKind.i64 0, Value.int IntKind.i64 0, Value.slice none 0 0] 54)).frozen? ⟨B, 3, none⟩ = false := by rw [← hB]; simp [go_sem]
      have cr4 : (w.alloc (Obj.cells #[Value.int IntKind.i64 0, Value.int IntKind.i64 0, Value.int IntKind.i64 0, Value.int IntKind.i64 0, Value.slice none 0 0] 54)).cell? ⟨B, 4, none⟩ = some (.slice none 0 0) := by rw [← hB]; simp [go_sem]
      have fr4 : (w.alloc (Obj.cells #[Value.int IntKind.i64 0, Value.int IntKind.i64 0, Value.int IntKind.i64 0, Value.int IntKind.i64 0, Value.slice none 0 0] 54)).frozen? ⟨B, 4, none⟩ = false := by rw [← hB]; simp [go_sem]
      generalize (w.alloc (Obj.cells #[Value.int IntKind.i64 0, Value.int IntKind.i64 0, Value.int IntKind.i64 0, Value.int IntKind.i64 0, Value.slice none 0 0] 54)) = W1 at *
      go_upto_region 2 with (go_at_call 45; (with_reducible refine (HS.out _ hB1).mono ?_); rintro e w2 ⟨rfl, hb⟩)
      have hW2 : ∀ o, Below W1.heap.size W1 (w2.alloc o) := fun o => hb.alloc hb.size o
      have hz2 : w2.heap.size ≥ B + 1 := by have := hb.size; omega
      have hB2 : Below W1.heap.size W1 (w2.alloc (Obj.cells #[Value.int IntKind.i64 x0, Value.int IntKind.i64 x1, Value.int IntKind.i64 x2] 52)) := hW2 _
      replace cr0 := (hB2.cell (p := ⟨B, 0, none⟩) (by show B < _; omega)).trans cr0
      replace fr0 := (World.frozen?_of_block (a := ⟨B, 0, none⟩) (hB2.block B (by omega))).trans fr0
      replace cr1 := (hB2.cell (p := ⟨B, 1, none⟩) (by show B < _; omega)).trans cr1
      replace fr1 := (World.frozen?_of_block (a := ⟨B, 1, none⟩) (hB2.block B (by omega))).trans fr1
      replace cr2 := (hB2.cell (p := ⟨B, 2, none⟩) (by show B < _; omega)).trans cr2
      replace fr2 := (World.frozen?_of_block (a := ⟨B, 2, none⟩) (hB2.block B (by omega))).trans fr2
      replace cr3 := (hB2.cell (p := ⟨B, 3, none⟩) (by show B < _; omega)).trans cr3
      replace fr3 := (World.frozen?_of_block (a := ⟨B, 3, none⟩) (hB2.block B (by omega))).trans fr3
      replace cr4 := (hB2.cell (p := ⟨B, 4, none⟩) (by show B < _; omega)).trans cr4
      replace fr4 := (World.frozen?_of_block (a := ⟨B, 4, none⟩) (hB2.block B (by omega))).trans fr4
      have cs : ((w2.alloc (Obj.cells #[Value.int IntKind.i64 x0, Value.int IntKind.i64 x1, Value.int IntKind.i64 x2] 52)).cell? ⟨w2.heap.size, 0, none⟩ = some (.int .i64 x0) ∧ (w2.alloc (Obj.cells #[Value.int IntKind.i64 x0, Value.int IntKind.i64 x1, Value.int IntKind.i64 x2] 52)).cell? ⟨w2.heap.size, 1, none⟩ = some (.int .i64 x1)) ∧ (w2.alloc (Obj.cells #[Value.int IntKind.i64 x0, Value.int IntKind.i64 x1, Value.int IntKind.i64 x2] 52)).cell? ⟨w2.heap.size, 2, none⟩ = some (.int .i64 x2) := by refine ⟨⟨?_, ?_⟩, ?_⟩ <;> simp [go_sem]
      obtain ⟨⟨cs0, cs1⟩, cs2⟩ := cs
      obtain ⟨B2, hB2e⟩ : ∃ B2, w2.heap.size = B2 := ⟨_, rfl⟩
      rw [hB2e] at cs0 cs1 cs2 hz2 ⊢
      generalize (w2.alloc (Obj.cells #[Value.int IntKind.i64 x0, Value.int IntKind.i64 x1, Value.int IntKind.i64 x2] 52)) = W3 at *
      have hne : B2 ≠ B := by omega
      have HB3 := Lib.hid (hB1.trans (hB2.mono hB1.size))
      have HBB := Lib.hid hB
      clear hW2 hb hB1 hB2 hB hz1 hB2e
      go_wp2_with fail
      all_goals (refine bodyPost_ret (v := .tuple #[hv 0 0 0 0 (.slice none 0 0), .bool false]) (by simp [results, Try.results44, go_sem, cr0, cr1, cr2, cr3, cr4]) rfl ⟨by first | rfl | simp [*], ?_⟩; (repeat (refine Below.setCell ?_ (by show w.heap.size ≤ _; rw [HBB.out]; exact Nat.le_refl _) _)); exact HB3.out)
end Go.Proofs.Ytakbijpcfnipoaa.A

set_option linter.unusedVariables false
set_option linter.unusedSimpArgs false
namespace Go.Proofs
open Go.Shelf
def Ytakbijpcfnipoaa.A.sort80_ren : Go.Shelf.Ren := ⟨fun | 189 => 80 | 125 => 83 | 257 => 82 | 128 => 93 | 129 => 94 | 294 => 84 | 295 => 85 | 296 => 86 | 297 => 87 | 298 => 88 | 299 => 89 | 216 => 90 | 300 => 91 | 301 => 92 | 328 => 95 | 329 => 96 | 330 => 97 | 331 => 98 | 332 => 99 | 215 => 100 | 343 => 101 | n => n, fun | 28 => 22 | 3 => 3 | 46 => 73 | 0 => 0 | 51 => 101 | 53 => 103 | 4 => 4 | 183 => 94 | 182 => 93 | 131 => 98 | 5 => 5 | 9 => 9 | 218 => 104 | 222 => 108 | 228 => 110 | 229 => 111 | n => n, fun | n => n⟩
theorem Ytakbijpcfnipoaa.A.sort80 : Go.Proofs.Lays.n189 Try.prog Ytakbijpcfnipoaa.A.sort80_ren := {
  mixed := by kernel_rfl
  f125 := Try.func83.trans (congrArg some (by kernel_rfl))
  f128 := Try.func93.trans (congrArg some (by kernel_rfl))
  f129 := Try.func94.trans (congrArg some (by kernel_rfl))
  f189 := Try.func80.trans (congrArg some (by kernel_rfl))
  f215 := Try.func100.trans (congrArg some (by kernel_rfl))
  f216 := Try.func90.trans (congrArg some (by kernel_rfl))
  f257 := Try.func82.trans (congrArg some (by kernel_rfl))
  f294 := Try.func84.trans (congrArg some (by kernel_rfl))
  f295 := Try.func85.trans (congrArg some (by kernel_rfl))
  f296 := Try.func86.trans (congrArg some (by kernel_rfl))
  f297 := Try.func87.trans (congrArg some (by kernel_rfl))
  f298 := Try.func88.trans (congrArg some (by kernel_rfl))
  f299 := Try.func89.trans (congrArg some (by kernel_rfl))
  f300 := Try.func91.trans (congrArg some (by kernel_rfl))
  f301 := Try.func92.trans (congrArg some (by kernel_rfl))
  f328 := Try.func95.trans (congrArg some (by kernel_rfl))
  f329 := Try.func96.trans (congrArg some (by kernel_rfl))
  f330 := Try.func97.trans (congrArg some (by kernel_rfl))
  f331 := Try.func98.trans (congrArg some (by kernel_rfl))
  f332 := Try.func99.trans (congrArg some (by kernel_rfl))
  f343 := Try.func101.trans (congrArg some (by kernel_rfl))
  t0 := Try.underlying0
  a0 := Try.isAgg0
  z0 := Try.sizeOf0
  v0 := Try.zeroValue0
  t3 := Try.underlying3
  a3 := Try.isAgg3
  z3 := Try.sizeOf3
  v3 := Try.zeroValue3
  t4 := Try.underlying4
  a4 := Try.isAgg4
  z4 := Try.sizeOf4
  v4 := Try.zeroValue4
  t5 := Try.underlying5
  a5 := Try.isAgg5
  z5 := Try.sizeOf5
  v5 := Try.zeroValue5
  t9 := Try.underlying9
  a9 := Try.isAgg9
  z9 := Try.sizeOf9
  v9 := Try.zeroValue9
  t28 := Try.underlying22
  a28 := Try.isAgg22
  z28 := Try.sizeOf22
  v28 := Try.zeroValue22
  t46 := Try.underlying73
  a46 := Try.isAgg73
  z46 := Try.sizeOf73
  v46 := Try.zeroValue73
  t51 := Try.underlying101
  a51 := Try.isAgg101
  z51 := Try.sizeOf101
  v51 := Try.zeroValue101
  t53 := Try.underlying103
  a53 := Try.isAgg103
  z53 := Try.sizeOf103
  v53 := Try.zeroValue103
  t131 := Try.underlying98
  a131 := Try.isAgg98
  z131 := Try.sizeOf98
  v131 := Try.zeroValue98
  t182 := Try.underlying93
  a182 := Try.isAgg93
  z182 := Try.sizeOf93
  v182 := Try.zeroValue93
  t183 := Try.underlying94
  a183 := Try.isAgg94
  z183 := Try.sizeOf94
  v183 := Try.zeroValue94
  t218 := Try.underlying104
  a218 := Try.isAgg104
  z218 := Try.sizeOf104
  v218 := Try.zeroValue104
  t222 := Try.underlying108
  a222 := Try.isAgg108
  z222 := Try.sizeOf108
  v222 := Try.zeroValue108
  t228 := Try.underlying110
  a228 := Try.isAgg110
  z228 := Try.sizeOf110
  v228 := Try.zeroValue110
  t229 := Try.underlying111
  a229 := Try.isAgg111
  z229 := Try.sizeOf111
  v229 := Try.zeroValue111 }
end Go.Proofs
namespace Go.Proofs.Ytakbijpcfnipoaa.A
open Go.Sort
open Go.RowKit Go.Proofs.YtakbijpcfnipoaaW.PrintWords Go.Proofs.YtakbijpcfnipoaaW.PrintLast Go.Proofs.YtakbijpcfnipoaaW.PrintMore
open Go.Proofs.Ytakbijpcfnipoaa.PA Go.Proofs.Ytakbijpcfnipoaa.Lf
theorem srt_unique : ∀ {l m : List Int}, Srt l → Srt m → l.Perm m → l = m
  | [], m, _, _, h => (List.nil_perm.1 h).symm ▸ rfl
  | a :: l, [], _, _, h => by have := h.length_eq; simp at this
  | a :: l, b :: m, h1, h2, h => by
    obtain ⟨g1, g2⟩ := List.pairwise_cons.1 h1
    obtain ⟨k1, k2⟩ := List.pairwise_cons.1 h2
    have e : a = b := by
      have ha : a ∈ b :: m := h.subset List.mem_cons_self
      have hb : b ∈ a :: l := h.symm.subset List.mem_cons_self
      have x1 : b ≤ a := by
        rcases List.mem_cons.1 ha with e | e
        · omega
        · exact k1 a e
      have x2 : a ≤ b := by
        rcases List.mem_cons.1 hb with e | e
        · omega
        · exact g1 b e
      omega
    subst e
    rw [srt_unique g2 k2 (List.Perm.cons_inv h)]
theorem ins_perm (x : Int) : ∀ l : List Int, (ins x l).Perm (x :: l)
  | [] => List.Perm.refl _
  | y :: l => by
    unfold ins
    split
    · exact ((ins_perm x l).cons y).trans (List.Perm.swap x y l)
    · exact List.Perm.refl _
theorem set_perm : ∀ {s : List Int} {i : Nat} (f : Int), i < s.length → (s.set i f).Perm (f :: s.eraseIdx i)
  | [], i, f, h => by simp at h
  | x :: s, 0, f, _ => List.Perm.refl _
  | x :: s, i + 1, f, h => by
    have := set_perm (s := s) (i := i) f (by simpa using h)
    show (x :: s.set i f).Perm (f :: x :: s.eraseIdx i)
    exact (this.cons x).trans (List.Perm.swap f x _)
theorem sort_moved {s : List Int} {i : Nat} (f : Int) (hs : Srt s) (hi : i < s.length) : ((s.set i f).mergeSort fun x y => decide (x ≤ y)) = moved s i f := by
  refine srt_unique ?_ (moved_srt hs i f) ?_
  · have := List.pairwise_mergeSort (le := fun x y : Int => decide (x ≤ y)) (fun a b c h1 h2 => by simp at *; omega) (fun a b => by simp; omega) (s.set i f)
    exact this.imp (fun h => by simpa using h)
  · exact (List.mergeSort_perm _ _).trans ((set_perm f hi).trans (ins_perm f _).symm)
theorem sort_arr {W : World} {B k : Nat} {x0 x1 x2 : Int} (hk1 : 1 ≤ k) (hk3 : k ≤ 3) (hB : B < W.heap.size) (h0 : W.cell? ⟨B, 0, none⟩ = some (.int .i64 x0)) (h1 : W.cell? ⟨B, 1, none⟩ = some (.int .i64 x1)) (h2 : W.cell? ⟨B, 2, none⟩ = some (.int .i64 x2))
    (f0 : W.frozen? ⟨B, 0, none⟩ = false) (f1 : W.frozen? ⟨B, 1, none⟩ = false) (f2 : W.frozen? ⟨B, 2, none⟩ = false) {M : List Int} (hM : ((T3 k x0 x1 x2).mergeSort fun x y => decide (x ≤ y)) = M) :
    Calls Try.prog 80 #[.slice (some ⟨B, 0, none⟩) k 3] W fun e w' => e = .returned (.tuple #[]) ∧ W.grownBy w' (some B) ∧ w'.cell? ⟨B, 0, none⟩ = some (.int .i64 (M.getD 0 x0)) ∧ w'.cell? ⟨B, 1, none⟩ = some (.int .i64 (M.getD 1 x1)) ∧ w'.cell? ⟨B, 2, none⟩ = some (.int .i64 (M.getD 2 x2)) := by
  have hl := t3_len hk3 x0 x1 x2
  have hml : M.length = k := by rw [← hM, List.length_mergeSort]; exact hl
  have hH : Holds (Value.int .i64) W B 0 (T3 k x0 x1 x2).toArray := by
    intro j hj
    have hj' : j < k := by rw [List.size_toArray, hl] at hj; exact hj
    have hkk := kCases hk1 hk3
    have hj3 : j = 0 ∨ j = 1 ∨ j = 2 := by omega
    rcases hj3 with rfl | rfl | rfl
    · have e : (T3 k x0 x1 x2).toArray[0]! = x0 := by rcases hkk with rfl | rfl | rfl <;> simp [T3]
      rw [e]; exact ⟨h0, f0⟩
    · have e : (T3 k x0 x1 x2).toArray[1]! = x1 := by rcases hkk with rfl | rfl | rfl <;> first | omega | simp [T3]
      rw [e]; exact ⟨h1, f1⟩
    · have e : (T3 k x0 x1 x2).toArray[2]! = x2 := by rcases hkk with rfl | rfl | rfl <;> first | omega | simp [T3]
      rw [e]; exact ⟨h2, f2⟩
  have hc := Any.slices_Sort_int sort80 B 0 3 (T3 k x0 x1 x2) W hH hB (by rw [hl]; omega)
  rw [hl, hM] at hc
  refine Calls.mono hc ?_
  rintro e w' ⟨rfl, n, os, rfl⟩
  have hsz : (putRow (Value.int .i64) (Sort.ahead W n) B 0 M.toArray).heap.size = W.heap.size := by
    show (W.heap.modify B _).size = _
    simp
  have hcell : ∀ j, (h : j < k) → (grow (putRow (Value.int .i64) (Sort.ahead W n) B 0 M.toArray) os).cell? ⟨B, j, none⟩ = some (.int .i64 (M.getD j 0)) := by
    intro j hj
    rw [cell?_grow _ _ _ (by rw [hsz]; exact hB)]
    have := cell?_putRow (Value.int .i64) (Sort.ahead W n) B 0 (T3 k x0 x1 x2).toArray M.toArray hH (by simp only [List.size_toArray]; rw [hl, hml]) j (by simpa [hml] using hj)
    rw [Nat.zero_add] at this
    rw [this, getElem!_pos M.toArray j (by simpa [hml] using hj), List.getD_eq_getElem?_getD, List.getElem?_eq_getElem (by rw [hml]; exact hj)]
    rfl
  have hother : ∀ j, k ≤ j → (grow (putRow (Value.int .i64) (Sort.ahead W n) B 0 M.toArray) os).cell? ⟨B, j, none⟩ = W.cell? ⟨B, j, none⟩ := by
    intro j hj
    rw [cell?_grow _ _ _ (by rw [hsz]; exact hB)]
    exact cell?_putRow_other (Value.int .i64) (Sort.ahead W n) B 0 M.toArray ⟨B, j, none⟩ (.inr (.inr (by simp [hml]; exact hj)))
  have hall : ∀ j x, j < 3 → W.cell? ⟨B, j, none⟩ = some (.int .i64 x) → (grow (putRow (Value.int .i64) (Sort.ahead W n) B 0 M.toArray) os).cell? ⟨B, j, none⟩ = some (.int .i64 (M.getD j x)) := by
    intro j x _ hx
    by_cases c : j < k
    · rw [hcell j c]
      have : j < M.length := by omega
      simp [List.getD_eq_getElem?_getD, List.getElem?_eq_getElem this]
    · rw [hother j (by omega), hx]
      have : M.length ≤ j := by omega
      simp [List.getD_eq_getElem?_getD, List.getElem?_eq_none this]
  refine ⟨rfl, ⟨rfl, rfl, rfl, ?_, fun b hb hne => ?_⟩, hall 0 x0 (by omega) h0, hall 1 x1 (by omega) h1, hall 2 x2 (by omega) h2⟩
  · rw [size_grow, hsz]; omega
  · rw [heap_grow_old _ _ (by rw [hsz]; exact hb)]
    show (W.heap.modify B _)[b]? = _
    rw [Array.getElem?_modify, if_neg (fun e => hne (by rw [e]))]
end Go.Proofs.Ytakbijpcfnipoaa.A

set_option linter.unusedVariables false
set_option linter.unusedSimpArgs false
namespace Go.Proofs.Ytakbijpcfnipoaa.A
open Go.RowKit Go.Proofs.YtakbijpcfnipoaaW.PrintWords Go.Proofs.YtakbijpcfnipoaaW.PrintLast Go.Proofs.YtakbijpcfnipoaaW.PrintMore
open Go.Proofs.Ytakbijpcfnipoaa.PA Go.Proofs.Ytakbijpcfnipoaa.Lf
set_option maxHeartbeats 8000000 in
set_option maxRecDepth 100000 in
theorem moved0 (k : Nat) (hk1 : 1 ≤ k) (hk3 : k ≤ 3) (s0 s1 s2 : Int) (A : Option Addr) (n c : Nat) (x0 x1 x2 f : Int) {M : List Int} (hM : ((T3 k f x1 x2).mergeSort fun x y => decide (x ≤ y)) = M) (w : World) :
    Calls Try.prog 73 #[hv k s0 s1 s2 (.slice A n c), sv x0 x1 x2, .int .i64 0, .int .i64 f] w fun e w' => e = .returned (sv (M.getD 0 f) (M.getD 1 x1) (M.getD 2 x2)) ∧ Below w.heap.size w w' := by
  obtain ⟨B, hB⟩ : ∃ B, w.heap.size = B := ⟨_, rfl⟩
  obtain ⟨m0, e0⟩ : ∃ m, M.getD 0 f = m := ⟨_, rfl⟩
  obtain ⟨m1, e1⟩ : ∃ m, M.getD 1 x1 = m := ⟨_, rfl⟩
  obtain ⟨m2, e2⟩ : ∃ m, M.getD 2 x2 = m := ⟨_, rfl⟩
  rw [e0, e1, e2]
  have HM := Lib.hid hM
  have HE := Lib.hid (And.intro e0 (And.intro e1 e2))
  clear hM e0 e1 e2
  have hk3' : (k : Int) ≤ 3 := by omega
  have hk0' : (0 : Int) ≤ (k : Int) := by omega
  go_enter Try.func73, Try.ntmps73
  go_upto_region 1 with fail
  have hB1 : Below w.heap.size w (((w.alloc (Obj.cells #[Value.int IntKind.i64 ↑k, Value.int IntKind.i64 s0, Value.int IntKind.i64 s1, Value.int IntKind.i64 s2, Value.slice A n c] 54)).alloc (Obj.cells #[Value.int IntKind.i64 x0, Value.int IntKind.i64 x1, Value.int IntKind.i64 x2] 52)).alloc (Obj.cells #[Value.int IntKind.i64 0, Value.int IntKind.i64 0, Value.int IntKind.i64 0] 52)) := below_new _ _ (below_new _ _ (below_new _ _ (Below.refl _ _) _) _) _
  have hz1 : (((w.alloc (Obj.cells #[Value.int IntKind.i64 ↑k, Value.int IntKind.i64 s0, Value.int IntKind.i64 s1, Value.int IntKind.i64 s2, Value.slice A n c] 54)).alloc (Obj.cells #[Value.int IntKind.i64 x0, Value.int IntKind.i64 x1, Value.int IntKind.i64 x2] 52)).alloc (Obj.cells #[Value.int IntKind.i64 0, Value.int IntKind.i64 0, Value.int IntKind.i64 0] 52)).heap.size = B + 3 := by simp [hB]
  have hk0 : (((w.alloc (Obj.cells #[Value.int IntKind.i64 ↑k, Value.int IntKind.i64 s0, Value.int IntKind.i64 s1, Value.int IntKind.i64 s2, Value.slice A n c] 54)).alloc (Obj.cells #[Value.int IntKind.i64 x0, Value.int IntKind.i64 x1, Value.int IntKind.i64 x2] 52)).alloc (Obj.cells #[Value.int IntKind.i64 0, Value.int IntKind.i64 0, Value.int IntKind.i64 0] 52)).cell? ⟨B, 0, none⟩ = some (.int .i64 (k : Int)) := by rw [← hB]; simp [go_sem]
  have cx0 : (((w.alloc (Obj.cells #[Value.int IntKind.i64 ↑k, Value.int IntKind.i64 s0, Value.int IntKind.i64 s1, Value.int IntKind.i64 s2, Value.slice A n c] 54)).alloc (Obj.cells #[Value.int IntKind.i64 x0, Value.int IntKind.i64 x1, Value.int IntKind.i64 x2] 52)).alloc (Obj.cells #[Value.int IntKind.i64 0, Value.int IntKind.i64 0, Value.int IntKind.i64 0] 52)).cell? ⟨B + 1, 0, none⟩ = some (.int .i64 x0) := by rw [← hB]; simp [go_sem]
  have fx0 : (((w.alloc (Obj.cells #[Value.int IntKind.i64 ↑k, Value.int IntKind.i64 s0, Value.int IntKind.i64 s1, Value.int IntKind.i64 s2, Value.slice A n c] 54)).alloc (Obj.cells #[Value.int IntKind.i64 x0, Value.int IntKind.i64 x1, Value.int IntKind.i64 x2] 52)).alloc (Obj.cells #[Value.int IntKind.i64 0, Value.int IntKind.i64 0, Value.int IntKind.i64 0] 52)).frozen? ⟨B + 1, 0, none⟩ = false := by rw [← hB]; simp [go_sem]
  have co0 : (((w.alloc (Obj.cells #[Value.int IntKind.i64 ↑k, Value.int IntKind.i64 s0, Value.int IntKind.i64 s1, Value.int IntKind.i64 s2, Value.slice A n c] 54)).alloc (Obj.cells #[Value.int IntKind.i64 x0, Value.int IntKind.i64 x1, Value.int IntKind.i64 x2] 52)).alloc (Obj.cells #[Value.int IntKind.i64 0, Value.int IntKind.i64 0, Value.int IntKind.i64 0] 52)).cell? ⟨B + 1 + 1, 0, none⟩ = some (.int .i64 0) := by rw [← hB]; simp [go_sem]
  have fo0 : (((w.alloc (Obj.cells #[Value.int IntKind.i64 ↑k, Value.int IntKind.i64 s0, Value.int IntKind.i64 s1, Value.int IntKind.i64 s2, Value.slice A n c] 54)).alloc (Obj.cells #[Value.int IntKind.i64 x0, Value.int IntKind.i64 x1, Value.int IntKind.i64 x2] 52)).alloc (Obj.cells #[Value.int IntKind.i64 0, Value.int IntKind.i64 0, Value.int IntKind.i64 0] 52)).frozen? ⟨B + 1 + 1, 0, none⟩ = false := by rw [← hB]; simp [go_sem]
  have cx1 : (((w.alloc (Obj.cells #[Value.int IntKind.i64 ↑k, Value.int IntKind.i64 s0, Value.int IntKind.i64 s1, Value.int IntKind.i64 s2, Value.slice A n c] 54)).alloc (Obj.cells #[Value.int IntKind.i64 x0, Value.int IntKind.i64 x1, Value.int IntKind.i64 x2] 52)).alloc (Obj.cells #[Value.int IntKind.i64 0, Value.int IntKind.i64 0, Value.int IntKind.i64 0] 52)).cell? ⟨B + 1, 1, none⟩ = some (.int .i64 x1) := by rw [← hB]; simp [go_sem]
  have fx1 : (((w.alloc (Obj.cells #[Value.int IntKind.i64 ↑k, Value.int IntKind.i64 s0, Value.int IntKind.i64 s1, Value.int IntKind.i64 s2, Value.slice A n c] 54)).alloc (Obj.cells #[Value.int IntKind.i64 x0, Value.int IntKind.i64 x1, Value.int IntKind.i64 x2] 52)).alloc (Obj.cells #[Value.int IntKind.i64 0, Value.int IntKind.i64 0, Value.int IntKind.i64 0] 52)).frozen? ⟨B + 1, 1, none⟩ = false := by rw [← hB]; simp [go_sem]
  have co1 : (((w.alloc (Obj.cells #[Value.int IntKind.i64 ↑k, Value.int IntKind.i64 s0, Value.int IntKind.i64 s1, Value.int IntKind.i64 s2, Value.slice A n c] 54)).alloc (Obj.cells #[Value.int IntKind.i64 x0, Value.int IntKind.i64 x1, Value.int IntKind.i64 x2] 52)).alloc (Obj.cells #[Value.int IntKind.i64 0, Value.int IntKind.i64 0, Value.int IntKind.i64 0] 52)).cell? ⟨B + 1 + 1, 1, none⟩ = some (.int .i64 0) := by rw [← hB]; simp [go_sem]
  have fo1 : (((w.alloc (Obj.cells #[Value.int IntKind.i64 ↑k, Value.int IntKind.i64 s0, Value.int IntKind.i64 s1, Value.int IntKind.i64 s2, Value.slice A n c] 54)).alloc (Obj.cells #[Value.int IntKind.i64 x0, Value.int IntKind.i64 x1, Value.int IntKind.i64 x2] 52)).alloc (Obj.cells #[Value.int IntKind.i64 0, Value.int IntKind.i64 0, Value.int IntKind.i64 0] 52)).frozen? ⟨B + 1 + 1, 1, none⟩ = false := by rw [← hB]; simp [go_sem]
  have cx2 : (((w.alloc (Obj.cells #[Value.int IntKind.i64 ↑k, Value.int IntKind.i64 s0, Value.int IntKind.i64 s1, Value.int IntKind.i64 s2, Value.slice A n c] 54)).alloc (Obj.cells #[Value.int IntKind.i64 x0, Value.int IntKind.i64 x1, Value.int IntKind.i64 x2] 52)).alloc (Obj.cells #[Value.int IntKind.i64 0, Value.int IntKind.i64 0, Value.int IntKind.i64 0] 52)).cell? ⟨B + 1, 2, none⟩ = some (.int .i64 x2) := by rw [← hB]; simp [go_sem]
  have fx2 : (((w.alloc (Obj.cells #[Value.int IntKind.i64 ↑k, Value.int IntKind.i64 s0, Value.int IntKind.i64 s1, Value.int IntKind.i64 s2, Value.slice A n c] 54)).alloc (Obj.cells #[Value.int IntKind.i64 x0, Value.int IntKind.i64 x1, Value.int IntKind.i64 x2] 52)).alloc (Obj.cells #[Value.int IntKind.i64 0, Value.int IntKind.i64 0, Value.int IntKind.i64 0] 52)).frozen? ⟨B + 1, 2, none⟩ = false := by rw [← hB]; simp [go_sem]
  have co2 : (((w.alloc (Obj.cells #[Value.int IntKind.i64 ↑k, Value.int IntKind.i64 s0, Value.int IntKind.i64 s1, Value.int IntKind.i64 s2, Value.slice A n c] 54)).alloc (Obj.cells #[Value.int IntKind.i64 x0, Value.int IntKind.i64 x1, Value.int IntKind.i64 x2] 52)).alloc (Obj.cells #[Value.int IntKind.i64 0, Value.int IntKind.i64 0, Value.int IntKind.i64 0] 52)).cell? ⟨B + 1 + 1, 2, none⟩ = some (.int .i64 0) := by rw [← hB]; simp [go_sem]
  have fo2 : (((w.alloc (Obj.cells #[Value.int IntKind.i64 ↑k, Value.int IntKind.i64 s0, Value.int IntKind.i64 s1, Value.int IntKind.i64 s2, Value.slice A n c] 54)).alloc (Obj.cells #[Value.int IntKind.i64 x0, Value.int IntKind.i64 x1, Value.int IntKind.i64 x2] 52)).alloc (Obj.cells #[Value.int IntKind.i64 0, Value.int IntKind.i64 0, Value.int IntKind.i64 0] 52)).frozen? ⟨B + 1 + 1, 2, none⟩ = false := by rw [← hB]; simp [go_sem]
  generalize (((w.alloc (Obj.cells #[Value.int IntKind.i64 ↑k, Value.int IntKind.i64 s0, Value.int IntKind.i64 s1, Value.int IntKind.i64 s2, Value.slice A n c] 54)).alloc (Obj.cells #[Value.int IntKind.i64 x0, Value.int IntKind.i64 x1, Value.int IntKind.i64 x2] 52)).alloc (Obj.cells #[Value.int IntKind.i64 0, Value.int IntKind.i64 0, Value.int IntKind.i64 0] 52)) = W1 at *
  have hset : ∀ W2, W2 = W1.setCell ⟨B + 1, 0, none⟩ (.int .i64 f) → Below w.heap.size w W2 ∧ W2.heap.size = B + 3 ∧ W2.cell? ⟨B, 0, none⟩ = some (.int .i64 (k : Int)) ∧ W2.cell? ⟨B + 1, 0, none⟩ = some (.int .i64 f) ∧ W2.cell? ⟨B + 1, 1, none⟩ = some (.int .i64 x1) ∧ W2.cell? ⟨B + 1, 2, none⟩ = some (.int .i64 x2) ∧ W2.frozen? ⟨B + 1, 0, none⟩ = false ∧ W2.frozen? ⟨B + 1, 1, none⟩ = false ∧ W2.frozen? ⟨B + 1, 2, none⟩ = false ∧ (∀ b, b ≠ B + 1 → W2.heap[b]? = W1.heap[b]?) := by
    rintro W2 rfl
    refine ⟨hB1.setCell (by show w.heap.size ≤ B + 1; omega) _, ?_, ?_, ?_, ?_, ?_, ?_, ?_, ?_, ?_⟩
    · simp [World.setCell, hz1]
    · simp [go_sem, hk0]
    · simp [go_sem, cx0]
    · simp [go_sem, cx1]
    · simp [go_sem, cx2]
    · rw [World.frozen?_setCell]; exact fx0
    · rw [World.frozen?_setCell]; exact fx1
    · rw [World.frozen?_setCell]; exact fx2
    · intro b hb
      exact Below.heap_setCell _ _ _ _ hb
  have HBB := Lib.hid hB
  have HZ1 := Lib.hid hz1
  clear hB1 hz1 hk0 hB
  go_upto_region 2 with fail
  obtain ⟨W2, hW2⟩ : ∃ W2, W2 = W1.setCell ⟨B + 1, 0, none⟩ (.int .i64 f) := ⟨_, rfl⟩
  obtain ⟨g1, g2, g3, g4, g5, g6, g7, g8, g9, g10⟩ := hset W2 hW2
  rw [← hW2]
  replace co0 := (World.cell?_of_block (a := ⟨B + 1 + 1, 0, none⟩) (g10 (B + 1 + 1) (by omega))).trans co0
  replace co1 := (World.cell?_of_block (a := ⟨B + 1 + 1, 1, none⟩) (g10 (B + 1 + 1) (by omega))).trans co1
  replace co2 := (World.cell?_of_block (a := ⟨B + 1 + 1, 2, none⟩) (g10 (B + 1 + 1) (by omega))).trans co2
  replace fo0 := (World.frozen?_of_block (a := ⟨B + 1 + 1, 0, none⟩) (g10 (B + 1 + 1) (by omega))).trans fo0
  replace fo1 := (World.frozen?_of_block (a := ⟨B + 1 + 1, 1, none⟩) (g10 (B + 1 + 1) (by omega))).trans fo1
  replace fo2 := (World.frozen?_of_block (a := ⟨B + 1 + 1, 2, none⟩) (g10 (B + 1 + 1) (by omega))).trans fo2
  have HS := Lib.hid (sort_arr (W := W2) (B := B + 1) (by omega) hk3 (by omega) g4 g5 g6 g7 g8 g9 HM.out)
  have G1 := Lib.hid g1
  have G2 := Lib.hid g2
  clear g1 g4 g5 g6 g7 g8 g9 g10 hW2 hset cx0 cx1 cx2 fx0 fx1 fx2 g2
  go_upto_region 3 with (go_at_call 80; (with_reducible refine HS.out.mono ?_); rintro e w3 ⟨rfl, hg, c0, c1, c2⟩)
  rw [HE.out.1] at c0
  rw [HE.out.2.1] at c1
  rw [HE.out.2.2] at c2
  have hb3 := hg.block (B + 1 + 1) (by rw [G2.out]; omega) (by simp)
  replace co0 := (World.cell?_of_block (a := ⟨B + 1 + 1, 0, none⟩) hb3).trans co0
  replace co1 := (World.cell?_of_block (a := ⟨B + 1 + 1, 1, none⟩) hb3).trans co1
  replace co2 := (World.cell?_of_block (a := ⟨B + 1 + 1, 2, none⟩) hb3).trans co2
  replace fo0 := (World.frozen?_of_block (a := ⟨B + 1 + 1, 0, none⟩) hb3).trans fo0
  replace fo1 := (World.frozen?_of_block (a := ⟨B + 1 + 1, 1, none⟩) hb3).trans fo1
  replace fo2 := (World.frozen?_of_block (a := ⟨B + 1 + 1, 2, none⟩) hb3).trans fo2
  have HB3 := Lib.hid (G1.out.grown hg (by rw [G2.out, HBB.out]; omega) (fun r hr => by injection hr with hr; rw [HBB.out]; omega))
  clear hg hb3 HS
  go_wp2_with fail
  all_goals (refine bodyPost_ret (v := sv m0 m1 m2) (by simp [results, Try.results73, go_sem, co0, co1, co2]) rfl ⟨rfl, ?_⟩; (repeat (refine Below.setCell ?_ (by show w.heap.size ≤ B + 1 + 1; rw [HBB.out]; omega) _)); exact HB3.out)
set_option maxHeartbeats 8000000 in
set_option maxRecDepth 100000 in
theorem moved1 (k : Nat) (hk1 : 2 ≤ k) (hk3 : k ≤ 3) (s0 s1 s2 : Int) (A : Option Addr) (n c : Nat) (x0 x1 x2 f : Int) {M : List Int} (hM : ((T3 k x0 f x2).mergeSort fun x y => decide (x ≤ y)) = M) (w : World) :
    Calls Try.prog 73 #[hv k s0 s1 s2 (.slice A n c), sv x0 x1 x2, .int .i64 1, .int .i64 f] w fun e w' => e = .returned (sv (M.getD 0 x0) (M.getD 1 f) (M.getD 2 x2)) ∧ Below w.heap.size w w' := by
  obtain ⟨B, hB⟩ : ∃ B, w.heap.size = B := ⟨_, rfl⟩
  obtain ⟨m0, e0⟩ : ∃ m, M.getD 0 x0 = m := ⟨_, rfl⟩
  obtain ⟨m1, e1⟩ : ∃ m, M.getD 1 f = m := ⟨_, rfl⟩
  obtain ⟨m2, e2⟩ : ∃ m, M.getD 2 x2 = m := ⟨_, rfl⟩
  rw [e0, e1, e2]
  have HM := Lib.hid hM
  have HE := Lib.hid (And.intro e0 (And.intro e1 e2))
  clear hM e0 e1 e2
  have hk3' : (k : Int) ≤ 3 := by omega
  have hk0' : (0 : Int) ≤ (k : Int) := by omega
  go_enter Try.func73, Try.ntmps73
  go_upto_region 1 with fail
  have hB1 : Below w.heap.size w (((w.alloc (Obj.cells #[Value.int IntKind.i64 ↑k, Value.int IntKind.i64 s0, Value.int IntKind.i64 s1, Value.int IntKind.i64 s2, Value.slice A n c] 54)).alloc (Obj.cells #[Value.int IntKind.i64 x0, Value.int IntKind.i64 x1, Value.int IntKind.i64 x2] 52)).alloc (Obj.cells #[Value.int IntKind.i64 0, Value.int IntKind.i64 0, Value.int IntKind.i64 0] 52)) := below_new _ _ (below_new _ _ (below_new _ _ (Below.refl _ _) _) _) _
  have hz1 : (((w.alloc (Obj.cells #[Value.int IntKind.i64 ↑k, Value.int IntKind.i64 s0, Value.int IntKind.i64 s1, Value.int IntKind.i64 s2, Value.slice A n c] 54)).alloc (Obj.cells #[Value.int IntKind.i64 x0, Value.int IntKind.i64 x1, Value.int IntKind.i64 x2] 52)).alloc (Obj.cells #[Value.int IntKind.i64 0, Value.int IntKind.i64 0, Value.int IntKind.i64 0] 52)).heap.size = B + 3 := by simp [hB]
  have hk0 : (((w.alloc (Obj.cells #[Value.int IntKind.i64 ↑k, Value.int IntKind.i64 s0, Value.int IntKind.i64 s1, Value.int IntKind.i64 s2, Value.slice A n c] 54)).alloc (Obj.cells #[Value.int IntKind.i64 x0, Value.int IntKind.i64 x1, Value.int IntKind.i64 x2] 52)).alloc (Obj.cells #[Value.int IntKind.i64 0, Value.int IntKind.i64 0, Value.int IntKind.i64 0] 52)).cell? ⟨B, 0, none⟩ = some (.int .i64 (k : Int)) := by rw [← hB]; simp [go_sem]
  have cx0 : (((w.alloc (Obj.cells #[Value.int IntKind.i64 ↑k, Value.int IntKind.i64 s0, Value.int IntKind.i64 s1, Value.int IntKind.i64 s2, Value.slice A n c] 54)).alloc (Obj.cells #[Value.int IntKind.i64 x0, Value.int IntKind.i64 x1, Value.int IntKind.i64 x2] 52)).alloc (Obj.cells #[Value.int IntKind.i64 0, Value.int IntKind.i64 0, Value.int IntKind.i64 0] 52)).cell? ⟨B + 1, 0, none⟩ = some (.int .i64 x0) := by rw [← hB]; simp [go_sem]
  have fx0 : (((w.alloc (Obj.cells #[Value.int IntKind.i64 ↑k, Value.int IntKind.i64 s0, Value.int IntKind.i64 s1, Value.int IntKind.i64 s2, Value.slice A n c] 54)).alloc (Obj.cells #[Value.int IntKind.i64 x0, Value.int IntKind.i64 x1, Value.int IntKind.i64 x2] 52)).alloc (Obj.cells #[Value.int IntKind.i64 0, Value.int IntKind.i64 0, Value.int IntKind.i64 0] 52)).frozen? ⟨B + 1, 0, none⟩ = false := by rw [← hB]; simp [go_sem]
  have co0 : (((w.alloc (Obj.cells #[Value.int IntKind.i64 ↑k, Value.int IntKind.i64 s0, Value.int IntKind.i64 s1, Value.int IntKind.i64 s2, Value.slice A n c] 54)).alloc (Obj.cells #[Value.int IntKind.i64 x0, Value.int IntKind.i64 x1, Value.int IntKind.i64 x2] 52)).alloc (Obj.cells #[Value.int IntKind.i64 0, Value.int IntKind.i64 0, Value.int IntKind.i64 0] 52)).cell? ⟨B + 1 + 1, 0, none⟩ = some (.int .i64 0) := by rw [← hB]; simp [go_sem]
  have fo0 : (((w.alloc (Obj.cells #[Value.int IntKind.i64 ↑k, Value.int IntKind.i64 s0, Value.int IntKind.i64 s1, Value.int IntKind.i64 s2, Value.slice A n c] 54)).alloc (Obj.cells #[Value.int IntKind.i64 x0, Value.int IntKind.i64 x1, Value.int IntKind.i64 x2] 52)).alloc (Obj.cells #[Value.int IntKind.i64 0, Value.int IntKind.i64 0, Value.int IntKind.i64 0] 52)).frozen? ⟨B + 1 + 1, 0, none⟩ = false := by rw [← hB]; simp [go_sem]
  have cx1 : (((w.alloc (Obj.cells #[Value.int IntKind.i64 ↑k, Value.int IntKind.i64 s0, Value.int IntKind.i64 s1, Value.int IntKind.i64 s2, Value.slice A n c] 54)).alloc (Obj.cells #[Value.int IntKind.i64 x0, Value.int IntKind.i64 x1, Value.int IntKind.i64 x2] 52)).alloc (Obj.cells #[Value.int IntKind.i64 0, Value.int IntKind.i64 0, Value.int IntKind.i64 0] 52)).cell? ⟨B + 1, 1, none⟩ = some (.int .i64 x1) := by rw [← hB]; simp [go_sem]
  have fx1 : (((w.alloc (Obj.cells #[Value.int IntKind.i64 ↑k, Value.int IntKind.i64 s0, Value.int IntKind.i64 s1, Value.int IntKind.i64 s2, Value.slice A n c] 54)).alloc (Obj.cells #[Value.int IntKind.i64 x0, Value.int IntKind.i64 x1, Value.int IntKind.i64 x2] 52)).alloc (Obj.cells #[Value.int IntKind.i64 0, Value.int IntKind.i64 0, Value.int IntKind.i64 0] 52)).frozen? ⟨B + 1, 1, none⟩ = false := by rw [← hB]; simp [go_sem]
  have co1 : (((w.alloc (Obj.cells #[Value.int IntKind.i64 ↑k, Value.int IntKind.i64 s0, Value.int IntKind.i64 s1, Value.int IntKind.i64 s2, Value.slice A n c] 54)).alloc (Obj.cells #[Value.int IntKind.i64 x0, Value.int IntKind.i64 x1, Value.int IntKind.i64 x2] 52)).alloc (Obj.cells #[Value.int IntKind.i64 0, Value.int IntKind.i64 0, Value.int IntKind.i64 0] 52)).cell? ⟨B + 1 + 1, 1, none⟩ = some (.int .i64 0) := by rw [← hB]; simp [go_sem]
  have fo1 : (((w.alloc (Obj.cells #[Value.int IntKind.i64 ↑k, Value.int IntKind.i64 s0, Value.int IntKind.i64 s1, Value.int IntKind.i64 s2, Value.slice A n c] 54)).alloc (Obj.cells #[Value.int IntKind.i64 x0, Value.int IntKind.i64 x1, Value.int IntKind.i64 x2] 52)).alloc (Obj.cells #[Value.int IntKind.i64 0, Value.int IntKind.i64 0, Value.int IntKind.i64 0] 52)).frozen? ⟨B + 1 + 1, 1, none⟩ = false := by rw [← hB]; simp [go_sem]
  have cx2 : (((w.alloc (Obj.cells #[Value.int IntKind.i64 ↑k, Value.int IntKind.i64 s0, Value.int IntKind.i64 s1, Value.int IntKind.i64 s2, Value.slice A n c] 54)).alloc (Obj.cells #[Value.int IntKind.i64 x0, Value.int IntKind.i64 x1, Value.int IntKind.i64 x2] 52)).alloc (Obj.cells #[Value.int IntKind.i64 0, Value.int IntKind.i64 0, Value.int IntKind.i64 0] 52)).cell? ⟨B + 1, 2, none⟩ = some (.int .i64 x2) := by rw [← hB]; simp [go_sem]
  have fx2 : (((w.alloc (Obj.cells #[Value.int IntKind.i64 ↑k, Value.int IntKind.i64 s0, Value.int IntKind.i64 s1, Value.int IntKind.i64 s2, Value.slice A n c] 54)).alloc (Obj.cells #[Value.int IntKind.i64 x0, Value.int IntKind.i64 x1, Value.int IntKind.i64 x2] 52)).alloc (Obj.cells #[Value.int IntKind.i64 0, Value.int IntKind.i64 0, Value.int IntKind.i64 0] 52)).frozen? ⟨B + 1, 2, none⟩ = false := by rw [← hB]; simp [go_sem]
  have co2 : (((w.alloc (Obj.cells #[Value.int IntKind.i64 ↑k, Value.int IntKind.i64 s0, Value.int IntKind.i64 s1, Value.int IntKind.i64 s2, Value.slice A n c] 54)).alloc (Obj.cells #[Value.int IntKind.i64 x0, Value.int IntKind.i64 x1, Value.int IntKind.i64 x2] 52)).alloc (Obj.cells #[Value.int IntKind.i64 0, Value.int IntKind.i64 0, Value.int IntKind.i64 0] 52)).cell? ⟨B + 1 + 1, 2, none⟩ = some (.int .i64 0) := by rw [← hB]; simp [go_sem]
  have fo2 : (((w.alloc (Obj.cells #[Value.int IntKind.i64 ↑k, Value.int IntKind.i64 s0, Value.int IntKind.i64 s1, Value.int IntKind.i64 s2, Value.slice A n c] 54)).alloc (Obj.cells #[Value.int IntKind.i64 x0, Value.int IntKind.i64 x1, Value.int IntKind.i64 x2] 52)).alloc (Obj.cells #[Value.int IntKind.i64 0, Value.int IntKind.i64 0, Value.int IntKind.i64 0] 52)).frozen? ⟨B + 1 + 1, 2, none⟩ = false := by rw [← hB]; simp [go_sem]
  generalize (((w.alloc (Obj.cells #[Value.int IntKind.i64 ↑k, Value.int IntKind.i64 s0, Value.int IntKind.i64 s1, Value.int IntKind.i64 s2, Value.slice A n c] 54)).alloc (Obj.cells #[Value.int IntKind.i64 x0, Value.int IntKind.i64 x1, Value.int IntKind.i64 x2] 52)).alloc (Obj.cells #[Value.int IntKind.i64 0, Value.int IntKind.i64 0, Value.int IntKind.i64 0] 52)) = W1 at *
  have hset : ∀ W2, W2 = W1.setCell ⟨B + 1, 1, none⟩ (.int .i64 f) → Below w.heap.size w W2 ∧ W2.heap.size = B + 3 ∧ W2.cell? ⟨B, 0, none⟩ = some (.int .i64 (k : Int)) ∧ W2.cell? ⟨B + 1, 0, none⟩ = some (.int .i64 x0) ∧ W2.cell? ⟨B + 1, 1, none⟩ = some (.int .i64 f) ∧ W2.cell? ⟨B + 1, 2, none⟩ = some (.int .i64 x2) ∧ W2.frozen? ⟨B + 1, 0, none⟩ = false ∧ W2.frozen? ⟨B + 1, 1, none⟩ = false ∧ W2.frozen? ⟨B + 1, 2, none⟩ = false ∧ (∀ b, b ≠ B + 1 → W2.heap[b]? = W1.heap[b]?) := by
    rintro W2 rfl
    refine ⟨hB1.setCell (by show w.heap.size ≤ B + 1; omega) _, ?_, ?_, ?_, ?_, ?_, ?_, ?_, ?_, ?_⟩
    · simp [World.setCell, hz1]
    · simp [go_sem, hk0]
    · simp [go_sem, cx0]
    · simp [go_sem, cx1]
    · simp [go_sem, cx2]
    · rw [World.frozen?_setCell]; exact fx0
    · rw [World.frozen?_setCell]; exact fx1
    · rw [World.frozen?_setCell]; exact fx2
    · intro b hb
      exact Below.heap_setCell _ _ _ _ hb
  have HBB := Lib.hid hB
  have HZ1 := Lib.hid hz1
  clear hB1 hz1 hk0 hB
  go_upto_region 2 with fail
  obtain ⟨W2, hW2⟩ : ∃ W2, W2 = W1.setCell ⟨B + 1, 1, none⟩ (.int .i64 f) := ⟨_, rfl⟩
  obtain ⟨g1, g2, g3, g4, g5, g6, g7, g8, g9, g10⟩ := hset W2 hW2
  rw [← hW2]
  replace co0 := (World.cell?_of_block (a := ⟨B + 1 + 1, 0, none⟩) (g10 (B + 1 + 1) (by omega))).trans co0
  replace co1 := (World.cell?_of_block (a := ⟨B + 1 + 1, 1, none⟩) (g10 (B + 1 + 1) (by omega))).trans co1
  replace co2 := (World.cell?_of_block (a := ⟨B + 1 + 1, 2, none⟩) (g10 (B + 1 + 1) (by omega))).trans co2
  replace fo0 := (World.frozen?_of_block (a := ⟨B + 1 + 1, 0, none⟩) (g10 (B + 1 + 1) (by omega))).trans fo0
  replace fo1 := (World.frozen?_of_block (a := ⟨B + 1 + 1, 1, none⟩) (g10 (B + 1 + 1) (by omega))).trans fo1
  replace fo2 := (World.frozen?_of_block (a := ⟨B + 1 + 1, 2, none⟩) (g10 (B + 1 + 1) (by omega))).trans fo2
  have HS := Lib.hid (sort_arr (W := W2) (B := B + 1) (by omega) hk3 (by omega) g4 g5 g6 g7 g8 g9 HM.out)
  have G1 := Lib.hid g1
  have G2 := Lib.hid g2
  clear g1 g4 g5 g6 g7 g8 g9 g10 hW2 hset cx0 cx1 cx2 fx0 fx1 fx2 g2
  go_upto_region 3 with (go_at_call 80; (with_reducible refine HS.out.mono ?_); rintro e w3 ⟨rfl, hg, c0, c1, c2⟩)
  rw [HE.out.1] at c0
  rw [HE.out.2.1] at c1
  rw [HE.out.2.2] at c2
  have hb3 := hg.block (B + 1 + 1) (by rw [G2.out]; omega) (by simp)
  replace co0 := (World.cell?_of_block (a := ⟨B + 1 + 1, 0, none⟩) hb3).trans co0
  replace co1 := (World.cell?_of_block (a := ⟨B + 1 + 1, 1, none⟩) hb3).trans co1
  replace co2 := (World.cell?_of_block (a := ⟨B + 1 + 1, 2, none⟩) hb3).trans co2
  replace fo0 := (World.frozen?_of_block (a := ⟨B + 1 + 1, 0, none⟩) hb3).trans fo0
  replace fo1 := (World.frozen?_of_block (a := ⟨B + 1 + 1, 1, none⟩) hb3).trans fo1
  replace fo2 := (World.frozen?_of_block (a := ⟨B + 1 + 1, 2, none⟩) hb3).trans fo2
  have HB3 := Lib.hid (G1.out.grown hg (by rw [G2.out, HBB.out]; omega) (fun r hr => by injection hr with hr; rw [HBB.out]; omega))
  clear hg hb3 HS
  go_wp2_with fail
  all_goals (refine bodyPost_ret (v := sv m0 m1 m2) (by simp [results, Try.results73, go_sem, co0, co1, co2]) rfl ⟨rfl, ?_⟩; (repeat (refine Below.setCell ?_ (by show w.heap.size ≤ B + 1 + 1; rw [HBB.out]; omega) _)); exact HB3.out)
set_option maxHeartbeats 8000000 in
set_option maxRecDepth 100000 in
theorem moved2 (k : Nat) (hk1 : 3 ≤ k) (hk3 : k ≤ 3) (s0 s1 s2 : Int) (A : Option Addr) (n c : Nat) (x0 x1 x2 f : Int) {M : List Int} (hM : ((T3 k x0 x1 f).mergeSort fun x y => decide (x ≤ y)) = M) (w : World) :
    Calls Try.prog 73 #[hv k s0 s1 s2 (.slice A n c), sv x0 x1 x2, .int .i64 2, .int .i64 f] w fun e w' => e = .returned (sv (M.getD 0 x0) (M.getD 1 x1) (M.getD 2 f)) ∧ Below w.heap.size w w' := by
  obtain ⟨B, hB⟩ : ∃ B, w.heap.size = B := ⟨_, rfl⟩
  obtain ⟨m0, e0⟩ : ∃ m, M.getD 0 x0 = m := ⟨_, rfl⟩
  obtain ⟨m1, e1⟩ : ∃ m, M.getD 1 x1 = m := ⟨_, rfl⟩
  obtain ⟨m2, e2⟩ : ∃ m, M.getD 2 f = m := ⟨_, rfl⟩
  rw [e0, e1, e2]
  have HM := Lib.hid hM
  have HE := Lib.hid (And.intro e0 (And.intro e1 e2))
  clear hM e0 e1 e2
  have hk3' : (k : Int) ≤ 3 := by omega
  have hk0' : (0 : Int) ≤ (k : Int) := by omega
  go_enter Try.func73, Try.ntmps73
  go_upto_region 1 with fail
  have hB1 : Below w.heap.size w (((w.alloc (Obj.cells #[Value.int IntKind.i64 ↑k, Value.int IntKind.i64 s0, Value.int IntKind.i64 s1, Value.int IntKind.i64 s2, Value.slice A n c] 54)).alloc (Obj.cells #[Value.int IntKind.i64 x0, Value.int IntKind.i64 x1, Value.int IntKind.i64 x2] 52)).alloc (Obj.cells #[Value.int IntKind.i64 0, Value.int IntKind.i64 0, Value.int IntKind.i64 0] 52)) := below_new _ _ (below_new _ _ (below_new _ _ (Below.refl _ _) _) _) _
  have hz1 : (((w.alloc (Obj.cells #[Value.int IntKind.i64 ↑k, Value.int IntKind.i64 s0, Value.int IntKind.i64 s1, Value.int IntKind.i64 s2, Value.slice A n c] 54)).alloc (Obj.cells #[Value.int IntKind.i64 x0, Value.int IntKind.i64 x1, Value.int IntKind.i64 x2] 52)).alloc (Obj.cells #[Value.int IntKind.i64 0, Value.int IntKind.i64 0, Value.int IntKind.i64 0] 52)).heap.size = B + 3 := by simp [hB]
  have hk0 : (((w.alloc (Obj.cells #[Value.int IntKind.i64 ↑k, Value.int IntKind.i64 s0, Value.int IntKind.i64 s1, Value.int IntKind.i64 s2, Value.slice A n c] 54)).alloc (Obj.cells #[Value.int IntKind.i64 x0, Value.int IntKind.i64 x1, Value.int IntKind.i64 x2] 52)).alloc (Obj.cells #[Value.int IntKind.i64 0, Value.int IntKind.i64 0, Value.int IntKind.i64 0] 52)).cell? ⟨B, 0, none⟩ = some (.int .i64 (k : Int)) := by rw [← hB]; simp [go_sem]
  have cx0 : (((w.alloc (Obj.cells #[Value.int IntKind.i64 ↑k, Value.int IntKind.i64 s0, Value.int IntKind.i64 s1, Value.int IntKind.i64 s2, Value.slice A n c] 54)).alloc (Obj.cells #[Value.int IntKind.i64 x0, Value.int IntKind.i64 x1, Value.int IntKind.i64 x2] 52)).alloc (Obj.cells #[Value.int IntKind.i64 0, Value.int IntKind.i64 0, Value.int IntKind.i64 0] 52)).cell? ⟨B + 1, 0, none⟩ = some (.int .i64 x0) := by rw [← hB]; simp [go_sem]
  have fx0 : (((w.alloc (Obj.cells #[Value.int IntKind.i64 ↑k, Value.int IntKind.i64 s0, Value.int IntKind.i64 s1, Value.int IntKind.i64 s2, Value.slice A n c] 54)).alloc (Obj.cells #[Value.int IntKind.i64 x0, Value.int IntKind.i64 x1, Value.int IntKind.i64 x2] 52)).alloc (Obj.cells #[Value.int IntKind.i64 0, Value.int IntKind.i64 0, Value.int IntKind.i64 0] 52)).frozen? ⟨B + 1, 0, none⟩ = false := by rw [← hB]; simp [go_sem]
  have co0 : (((w.alloc (Obj.cells #[Value.int IntKind.i64 ↑k, Value.int IntKind.i64 s0, Value.int IntKind.i64 s1, Value.int IntKind.i64 s2, Value.slice A n c] 54)).alloc (Obj.cells #[Value.int IntKind.i64 x0, Value.int IntKind.i64 x1, Value.int IntKind.i64 x2] 52)).alloc (Obj.cells #[Value.int IntKind.i64 0, Value.int IntKind.i64 0, Value.int IntKind.i64 0] 52)).cell? ⟨B + 1 + 1, 0, none⟩ = some (.int .i64 0) := by rw [← hB]; simp [go_sem]
  have fo0 : (((w.alloc (Obj.cells #[Value.int IntKind.i64 ↑k, Value.int IntKind.i64 s0, Value.int IntKind.i64 s1, Value.int IntKind.i64 s2, Value.slice A n c] 54)).alloc (Obj.cells #[Value.int IntKind.i64 x0, Value.int IntKind.i64 x1, Value.int IntKind.i64 x2] 52)).alloc (Obj.cells #[Value.int IntKind.i64 0, Value.int IntKind.i64 0, Value.int IntKind.i64 0] 52)).frozen? ⟨B + 1 + 1, 0, none⟩ = false := by rw [← hB]; simp [go_sem]
  have cx1 : (((w.alloc (Obj.cells #[Value.int IntKind.i64 ↑k, Value.int IntKind.i64 s0, Value.int IntKind.i64 s1, Value.int IntKind.i64 s2, Value.slice A n c] 54)).alloc (Obj.cells #[Value.int IntKind.i64 x0, Value.int IntKind.i64 x1, Value.int IntKind.i64 x2] 52)).alloc (Obj.cells #[Value.int IntKind.i64 0, Value.int IntKind.i64 0, Value.int IntKind.i64 0] 52)).cell? ⟨B + 1, 1, none⟩ = some (.int .i64 x1) := by rw [← hB]; simp [go_sem]
  have fx1 : (((w.alloc (Obj.cells #[Value.int IntKind.i64 ↑k, Value.int IntKind.i64 s0, Value.int IntKind.i64 s1, Value.int IntKind.i64 s2, Value.slice A n c] 54)).alloc (Obj.cells #[Value.int IntKind.i64 x0, Value.int IntKind.i64 x1, Value.int IntKind.i64 x2] 52)).alloc (Obj.cells #[Value.int IntKind.i64 0, Value.int IntKind.i64 0, Value.int IntKind.i64 0] 52)).frozen? ⟨B + 1, 1, none⟩ = false := by rw [← hB]; simp [go_sem]
  have co1 : (((w.alloc (Obj.cells #[Value.int IntKind.i64 ↑k, Value.int IntKind.i64 s0, Value.int IntKind.i64 s1, Value.int IntKind.i64 s2, Value.slice A n c] 54)).alloc (Obj.cells #[Value.int IntKind.i64 x0, Value.int IntKind.i64 x1, Value.int IntKind.i64 x2] 52)).alloc (Obj.cells #[Value.int IntKind.i64 0, Value.int IntKind.i64 0, Value.int IntKind.i64 0] 52)).cell? ⟨B + 1 + 1, 1, none⟩ = some (.int .i64 0) := by rw [← hB]; simp [go_sem]
  have fo1 : (((w.alloc (Obj.cells #[Value.int IntKind.i64 ↑k, Value.int IntKind.i64 s0, Value.int IntKind.i64 s1, Value.int IntKind.i64 s2, Value.slice A n c] 54)).alloc (Obj.cells #[Value.int IntKind.i64 x0, Value.int IntKind.i64 x1, Value.int IntKind.i64 x2] 52)).alloc (Obj.cells #[Value.int IntKind.i64 0, Value.int IntKind.i64 0, Value.int IntKind.i64 0] 52)).frozen? ⟨B + 1 + 1, 1, none⟩ = false := by rw [← hB]; simp [go_sem]
  have cx2 : (((w.alloc (Obj.cells #[Value.int IntKind.i64 ↑k, Value.int IntKind.i64 s0, Value.int IntKind.i64 s1, Value.int IntKind.i64 s2, Value.slice A n c] 54)).alloc (Obj.cells #[Value.int IntKind.i64 x0, Value.int IntKind.i64 x1, Value.int IntKind.i64 x2] 52)).alloc (Obj.cells #[Value.int IntKind.i64 0, Value.int IntKind.i64 0, Value.int IntKind.i64 0] 52)).cell? ⟨B + 1, 2, none⟩ = some (.int .i64 x2) := by rw [← hB]; simp [go_sem]
  have fx2 : (((w.alloc (Obj.cells #[Value.int IntKind.i64 ↑k, Value.int IntKind.i64 s0, Value.int IntKind.i64 s1, Value.int IntKind.i64 s2, Value.slice A n c] 54)).alloc (Obj.cells #[Value.int IntKind.i64 x0, Value.int IntKind.i64 x1, Value.int IntKind.i64 x2] 52)).alloc (Obj.cells #[Value.int IntKind.i64 0, Value.int IntKind.i64 0, Value.int IntKind.i64 0] 52)).frozen? ⟨B + 1, 2, none⟩ = false := by rw [← hB]; simp [go_sem]
  have co2 : (((w.alloc (Obj.cells #[Value.int IntKind.i64 ↑k, Value.int IntKind.i64 s0, Value.int IntKind.i64 s1, Value.int IntKind.i64 s2, Value.slice A n c] 54)).alloc (Obj.cells #[Value.int IntKind.i64 x0, Value.int IntKind.i64 x1, Value.int IntKind.i64 x2] 52)).alloc (Obj.cells #[Value.int IntKind.i64 0, Value.int IntKind.i64 0, Value.int IntKind.i64 0] 52)).cell? ⟨B + 1 + 1, 2, none⟩ = some (.int .i64 0) := by rw [← hB]; simp [go_sem]
  have fo2 : (((w.alloc (Obj.cells #[Value.int IntKind.i64 ↑k, Value.int IntKind.i64 s0, Value.int IntKind.i64 s1, Value.int IntKind.i64 s2, Value.slice A n c] 54)).alloc (Obj.cells #[Value.int IntKind.i64 x0, Value.int IntKind.i64 x1, Value.int IntKind.i64 x2] 52)).alloc (Obj.cells #[Value.int IntKind.i64 0, Value.int IntKind.i64 0, Value.int IntKind.i64 0] 52)).frozen? ⟨B + 1 + 1, 2, none⟩ = false := by rw [← hB]; simp [go_sem]
  generalize (((w.alloc (Obj.cells #[Value.int IntKind.i64 ↑k, Value.int IntKind.i64 s0, Value.int IntKind.i64 s1, Value.int IntKind.i64 s2, Value.slice A n c] 54)).alloc (Obj.cells #[Value.int IntKind.i64 x0, Value.int IntKind.i64 x1, Value.int IntKind.i64 x2] 52)).alloc (Obj.cells #[Value.int IntKind.i64 0, Value.int IntKind.i64 0, Value.int IntKind.i64 0] 52)) = W1 at *
  have hset : ∀ W2, W2 = W1.setCell ⟨B + 1, 2, none⟩ (.int .i64 f) → Below w.heap.size w W2 ∧ W2.heap.size = B + 3 ∧ W2.cell? ⟨B, 0, none⟩ = some (.int .i64 (k : Int)) ∧ W2.cell? ⟨B + 1, 0, none⟩ = some (.int .i64 x0) ∧ W2.cell? ⟨B + 1, 1, none⟩ = some (.int .i64 x1) ∧ W2.cell? ⟨B + 1, 2, none⟩ = some (.int .i64 f) ∧ W2.frozen? ⟨B + 1, 0, none⟩ = false ∧ W2.frozen? ⟨B + 1, 1, none⟩ = false ∧ W2.frozen? ⟨B + 1, 2, none⟩ = false ∧ (∀ b, b ≠ B + 1 → W2.heap[b]? = W1.heap[b]?) := by
    rintro W2 rfl
    refine ⟨hB1.setCell (by show w.heap.size ≤ B + 1; omega) _, ?_, ?_, ?_, ?_, ?_, ?_, ?_, ?_, ?_⟩
    · simp [World.setCell, hz1]
    · simp [go_sem, hk0]
    · simp [go_sem, cx0]
    · simp [go_sem, cx1]
    · simp [go_sem, cx2]
    · rw [World.frozen?_setCell]; exact fx0
    · rw [World.frozen?_setCell]; exact fx1
    · rw [World.frozen?_setCell]; exact fx2
    · intro b hb
      exact Below.heap_setCell _ _ _ _ hb
  have HBB := Lib.hid hB
  have HZ1 := Lib.hid hz1
  clear hB1 hz1 hk0 hB
  go_upto_region 2 with fail
  obtain ⟨W2, hW2⟩ : ∃ W2, W2 = W1.setCell ⟨B + 1, 2, none⟩ (.int .i64 f) := ⟨_, rfl⟩
  obtain ⟨g1, g2, g3, g4, g5, g6, g7, g8, g9, g10⟩ := hset W2 hW2
  rw [← hW2]
  replace co0 := (World.cell?_of_block (a := ⟨B + 1 + 1, 0, none⟩) (g10 (B + 1 + 1) (by omega))).trans co0
  replace co1 := (World.cell?_of_block (a := ⟨B + 1 + 1, 1, none⟩) (g10 (B + 1 + 1) (by omega))).trans co1
  replace co2 := (World.cell?_of_block (a := ⟨B + 1 + 1, 2, none⟩) (g10 (B + 1 + 1) (by omega))).trans co2
  replace fo0 := (World.frozen?_of_block (a := ⟨B + 1 + 1, 0, none⟩) (g10 (B + 1 + 1) (by omega))).trans fo0
  replace fo1 := (World.frozen?_of_block (a := ⟨B + 1 + 1, 1, none⟩) (g10 (B + 1 + 1) (by omega))).trans fo1
  replace fo2 := (World.frozen?_of_block (a := ⟨B + 1 + 1, 2, none⟩) (g10 (B + 1 + 1) (by omega))).trans fo2
  have HS := Lib.hid (sort_arr (W := W2) (B := B + 1) (by omega) hk3 (by omega) g4 g5 g6 g7 g8 g9 HM.out)
  have G1 := Lib.hid g1
  have G2 := Lib.hid g2
  clear g1 g4 g5 g6 g7 g8 g9 g10 hW2 hset cx0 cx1 cx2 fx0 fx1 fx2 g2
  go_upto_region 3 with (go_at_call 80; (with_reducible refine HS.out.mono ?_); rintro e w3 ⟨rfl, hg, c0, c1, c2⟩)
  rw [HE.out.1] at c0
  rw [HE.out.2.1] at c1
  rw [HE.out.2.2] at c2
  have hb3 := hg.block (B + 1 + 1) (by rw [G2.out]; omega) (by simp)
  replace co0 := (World.cell?_of_block (a := ⟨B + 1 + 1, 0, none⟩) hb3).trans co0
  replace co1 := (World.cell?_of_block (a := ⟨B + 1 + 1, 1, none⟩) hb3).trans co1
  replace co2 := (World.cell?_of_block (a := ⟨B + 1 + 1, 2, none⟩) hb3).trans co2
  replace fo0 := (World.frozen?_of_block (a := ⟨B + 1 + 1, 0, none⟩) hb3).trans fo0
  replace fo1 := (World.frozen?_of_block (a := ⟨B + 1 + 1, 1, none⟩) hb3).trans fo1
  replace fo2 := (World.frozen?_of_block (a := ⟨B + 1 + 1, 2, none⟩) hb3).trans fo2
  have HB3 := Lib.hid (G1.out.grown hg (by rw [G2.out, HBB.out]; omega) (fun r hr => by injection hr with hr; rw [HBB.out]; omega))
  clear hg hb3 HS
  go_wp2_with fail
  all_goals (refine bodyPost_ret (v := sv m0 m1 m2) (by simp [results, Try.results73, go_sem, co0, co1, co2]) rfl ⟨rfl, ?_⟩; (repeat (refine Below.setCell ?_ (by show w.heap.size ≤ B + 1 + 1; rw [HBB.out]; omega) _)); exact HB3.out)
theorem getD_pad {l : List Int} {j : Nat} (h : j < l.length) (x y : Int) : l.getD j x = l.getD j y := by
  simp [List.getD_eq_getElem?_getD, List.getElem?_eq_getElem h]
theorem getD_out {l : List Int} {j : Nat} (h : l.length ≤ j) (x : Int) : l.getD j x = x := by
  simp [List.getD_eq_getElem?_getD, List.getElem?_eq_none h]
theorem t3_self {k : Nat} {s : List Int} (hl : s.length = k) (hk : k ≤ 3) : T3 k (s.getD 0 0) (s.getD 1 0) (s.getD 2 0) = s := by
  match s, hl with
  | [], h => subst h; rfl
  | [a], h => subst h; rfl
  | [a, b], h => subst h; rfl
  | [a, b, c], h => subst h; rfl
  | _ :: _ :: _ :: _ :: _, h => simp at h; omega
theorem set_t3_0 {k : Nat} {s : List Int} (f : Int) (hl : s.length = k) (hk : k ≤ 3) (hi : 0 < k) : T3 k f (s.getD 1 0) (s.getD 2 0) = s.set 0 f := by
  match s, hl with
  | [], h => simp at h; omega
  | [a], h => subst h; first | rfl | (simp at hi)
  | [a, b], h => subst h; first | rfl | (simp at hi)
  | [a, b, c], h => subst h; rfl
  | _ :: _ :: _ :: _ :: _, h => simp at h; omega
theorem set_t3_1 {k : Nat} {s : List Int} (f : Int) (hl : s.length = k) (hk : k ≤ 3) (hi : 1 < k) : T3 k (s.getD 0 0) f (s.getD 2 0) = s.set 1 f := by
  match s, hl with
  | [], h => simp at h; omega
  | [a], h => subst h; first | rfl | (simp at hi)
  | [a, b], h => subst h; first | rfl | (simp at hi)
  | [a, b, c], h => subst h; rfl
  | _ :: _ :: _ :: _ :: _, h => simp at h; omega
theorem set_t3_2 {k : Nat} {s : List Int} (f : Int) (hl : s.length = k) (hk : k ≤ 3) (hi : 2 < k) : T3 k (s.getD 0 0) (s.getD 1 0) f = s.set 2 f := by
  match s, hl with
  | [], h => simp at h; omega
  | [a], h => subst h; first | rfl | (simp at hi)
  | [a, b], h => subst h; first | rfl | (simp at hi)
  | [a, b, c], h => subst h; rfl
  | _ :: _ :: _ :: _ :: _, h => simp at h; omega
theorem moved_c {k : Nat} (hk3 : k ≤ 3) (s0 s1 s2 : Int) (A : Option Addr) (n c : Nat) {s : List Int} (hs : Srt s) (hl : s.length = k) {i : Nat} (hi : i < k) (f : Int) (w : World) :
    Calls Try.prog 73 #[hv k s0 s1 s2 (.slice A n c), pad s, .int .i64 i, .int .i64 f] w fun e w' => e = .returned (pad (moved s i f)) ∧ Below w.heap.size w w' := by
  have hM := sort_moved f hs (show i < s.length by omega)
  have hml := moved_len (s := s) (i := i) (by omega) f
  obtain ⟨M, hMe⟩ : ∃ M, moved s i f = M := ⟨_, rfl⟩
  rw [hMe] at hM hml ⊢
  have key : ∀ j x, (s.length ≤ j → x = 0) → M.getD j x = M.getD j 0 := by
    intro j x hx
    by_cases c : j < s.length
    · exact getD_pad (by omega) _ _
    · rw [hx (by omega)]
  have hi3 : i = 0 ∨ i = 1 ∨ i = 2 := by omega
  rcases hi3 with rfl | rfl | rfl
  · have h := moved0 k (by omega) hk3 s0 s1 s2 A n c (s.getD 0 0) (s.getD 1 0) (s.getD 2 0) f (M := M) (by rw [set_t3_0 f hl hk3 (by omega)]; exact hM) w
    rw [key 0 f (fun h => by omega), key 1 _ (fun h => getD_out h 0), key 2 _ (fun h => getD_out h 0)] at h
    exact h
  · have h := moved1 k (by omega) hk3 s0 s1 s2 A n c (s.getD 0 0) (s.getD 1 0) (s.getD 2 0) f (M := M) (by rw [set_t3_1 f hl hk3 (by omega)]; exact hM) w
    rw [key 0 _ (fun h => getD_out h 0), key 1 f (fun h => by omega), key 2 _ (fun h => getD_out h 0)] at h
    exact h
  · have h := moved2 k (by omega) hk3 s0 s1 s2 A n c (s.getD 0 0) (s.getD 1 0) (s.getD 2 0) f (M := M) (by rw [set_t3_2 f hl hk3 (by omega)]; exact hM) w
    rw [key 0 _ (fun h => getD_out h 0), key 1 _ (fun h => getD_out h 0), key 2 f (fun h => by omega)] at h
    exact h
end Go.Proofs.Ytakbijpcfnipoaa.A
