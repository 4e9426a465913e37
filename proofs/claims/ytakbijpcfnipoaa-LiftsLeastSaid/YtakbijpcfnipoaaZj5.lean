/- What the statements of this seat lean on: the functions that they reach, walked. -/
import Derived.Test.YtakbijpcfnipoaaZj4
set_option linter.unusedSimpArgs false
set_option linter.unusedVariables false

set_option linter.unusedVariables false
set_option linter.unusedSimpArgs false
namespace Go.Proofs.Ytakbijpcfnipoaa.A
open Go.Proofs.Ytakbijpcfnipoaa.Lf
def hdD (l : List (List Int)) (x : List Int) : Int := match l with
  | [] => 0
  | t :: _ => dist t x
def bkF (k : Nat) : (List Int → Int) → List Int → List (List Int)
  | _, [] => []
  | w, f :: c => (chp (fun x => nxt k w f x + hdD (bkF k (nxt k w f) c) x) f (allF k 0)).1 :: bkF k (nxt k w f) c
theorem bkF_len (k : Nat) : ∀ (c : List Int) (w : List Int → Int), (bkF k w c).length = c.length
  | [], _ => rfl
  | f :: c, w => by show (bkF k (nxt k w f) c).length + 1 = c.length + 1; rw [bkF_len k c]
theorem pos_rep {k : Nat} {f : Int} (h0 : 0 ≤ f) (h1 : f ≤ 30) : Pos k (List.replicate k f) :=
  ⟨by simp, by rw [show Srt (List.replicate k f) = (List.replicate k f).Pairwise (· ≤ ·) from rfl, List.pairwise_replicate]; exact .inr (Int.le_refl _), fun x hx => by rw [List.eq_of_mem_replicate hx]; exact ⟨h0, h1⟩⟩
theorem chp_all {k : Nat} (hk1 : 1 ≤ k) (v : List Int → Int) {f : Int} (h0 : 0 ≤ f) (h1 : f ≤ 30) (hv : ∀ s, Pos k s → 0 ≤ v s) :
    Pos k (chp v f (allF k 0)).1 ∧ f ∈ (chp v f (allF k 0)).1 ∧ ∀ X, Pos k X → f ∈ X → v (chp v f (allF k 0)).1 ≤ v X := by
  rcases chp_spec v f (allF k 0).reverse (allF k 0) (by simp) (fun s hs => hv s (allF_pos.1 hs)) with ⟨_, h2⟩ | ⟨s, hs, e, hc, hle⟩
  · have hm := h2 _ (allF_pos.2 (pos_rep (k := k) h0 h1))
    rw [List.contains_eq_mem, decide_eq_false_iff_not, List.mem_replicate] at hm
    exact absurd ⟨by omega, rfl⟩ hm
  · rw [e]
    refine ⟨allF_pos.1 hs, by simpa using hc, fun X hX hf => hle X (allF_pos.2 hX) (by simpa using hf)⟩
theorem hdD_nonneg (l : List (List Int)) (x : List Int) : 0 ≤ hdD l x := by
  unfold hdD; split
  · exact Int.le_refl _
  · exact dist_nonneg _ _
theorem bkF_back {k : Nat} (hk1 : 1 ≤ k) : ∀ (c : List Int) (w : List Int → Int), Fls c → Lip k w → (∀ s, Pos k s → 0 ≤ w s) → Back k w c (bkF k w c)
  | [], w, _, _, _ => trivial
  | f :: c, w, hc, hw, h0 => by
    obtain ⟨f0, f1⟩ := hc f List.mem_cons_self
    have hl := nxt_lip hk1 hw f0 f1
    have hn : ∀ s, Pos k s → 0 ≤ nxt k w f s := fun s hs => Int.le_trans (h0 s hs) (nxt_ge hk1 hw f0 f1 hs)
    have ih := bkF_back hk1 c (nxt k w f) (fun g hg => hc g (List.mem_cons_of_mem _ hg)) hl hn
    obtain ⟨a1, a2, a3⟩ := chp_all hk1 (fun x => nxt k w f x + hdD (bkF k (nxt k w f) c) x) f0 f1 (fun s hs => by have := hn s hs; have := hdD_nonneg (bkF k (nxt k w f) c) s; omega)
    show Back k w (f :: c) ((chp (fun x => nxt k w f x + hdD (bkF k (nxt k w f) c) x) f (allF k 0)).1 :: bkF k (nxt k w f) c)
    refine ⟨a1, a2, ih, ?_⟩
    cases hb : bkF k (nxt k w f) c with
    | nil =>
      rw [hb] at a3
      intro X hX hf
      have := a3 X hX hf
      simpa [hdD, hb] using this
    | cons t l =>
      rw [hb] at a3
      intro X hX hf
      have := a3 X hX hf
      simpa [hdD, hb] using this
theorem works_bd {k : Nat} (hk1 : 1 ≤ k) {s : List Int} (hs : Pos k s) (hk3 : k ≤ 3) : ∀ (c : List Int) (w : List Int → Int) (M : Int), Fls c → Lip k w → (∀ x, Pos k x → 0 ≤ w x ∧ w x ≤ M) → ∀ x, Pos k x → 0 ≤ works k w c x ∧ works k w c x ≤ M + 90 * c.length
  | [], w, M, _, _, h, x, hx => by have := h x hx; simp [works]; omega
  | f :: c, w, M, hc, hw, h, x, hx => by
    obtain ⟨f0, f1⟩ := hc f List.mem_cons_self
    have hl := nxt_lip hk1 hw f0 f1
    have hn : ∀ s, Pos k s → 0 ≤ nxt k w f s ∧ nxt k w f s ≤ M + 90 := fun s hs => by
      obtain ⟨X, hX, _, e⟩ := nxt_is hk1 hw f0 f1 hs
      have h1 := h X hX
      have h2 := dist_bd hk3 hX hs
      omega
    have := works_bd hk1 hs hk3 c (nxt k w f) (M + 90) (fun g hg => hc g (List.mem_cons_of_mem _ hg)) hl hn x hx
    show 0 ≤ works k (nxt k w f) c x ∧ works k (nxt k w f) c x ≤ M + 90 * ((c.length + 1 : Nat) : Int)
    omega
end Go.Proofs.Ytakbijpcfnipoaa.A

set_option linter.unusedVariables false
set_option linter.unusedSimpArgs false
namespace Go.Proofs.Ytakbijpcfnipoaa.R
open Go.RowKit
inductive PT where
  | nil
  | fl (i : Nat) (p : PT)
  | go (i : Nat) (p : PT)
  | two (i j : Nat) (p q : PT)
def PT.len : PT → Nat
  | .nil => 0
  | .fl _ p => p.len + 1
  | .go _ p => p.len + 1
  | .two _ _ p _ => p.len + 1
section
variable {P : Program} {ops : Array Oper} {Q : Exit → Act → World → Prop} {md : Region.Mode} {S : World → Prop}
def wpOne (P : Program) (ops : Array Oper) (Q : Exit → Act → World → Prop) (o : Oper) (K : Act → World → Prop) (a : Act) (w : World) : Prop :=
  if Region.wanted o (yielded ops a.tmps) then o.wp P a w K Q ∨ (o.asks P a w ∧ LetsOut Q) else K (a.put o.dst undef) w
theorem wpOp_one {i : Nat} {o : Oper} {K : Act → World → Prop} {a : Act} {w : World} (h0 : ops[i]? = some o) (h : wpOne P ops Q o K a w) : wpOp P ops Q i K a w := by
  unfold wpOp
  simp only [h0]
  exact h
theorem wpOne_step {o : Oper} {K0 : Act → World → Prop} {a : Act} {w : World} (h : ∀ K : Act → World → Prop, (∀ a' w', K0 a' w' → K a' w') → if Region.wanted o (yielded ops a.tmps) then o.wp P a w K Q else K (a.put o.dst undef) w) : wpOne P ops Q o K0 a w := by
  have := h K0 (fun _ _ h => h)
  unfold wpOne
  split
  · rename_i hw; rw [if_pos hw] at this; exact .inl this
  · rename_i hw; rw [if_neg hw] at this; exact this
end
end Go.Proofs.Ytakbijpcfnipoaa.R

set_option linter.unusedVariables false
set_option linter.unusedSimpArgs false
namespace Go.Proofs.Ytakbijpcfnipoaa.R
open Go.RowKit
section
variable {P : Program} {ops : Array Oper} {Q : Exit → Act → World → Prop} {md : Region.Mode} {S : World → Prop}
def Clo (md : Region.Mode) (ops : Array Oper) (l : Array Bool) : Prop := ∀ x, l.getD x false = true → ∀ o, ops[x]? = some o → ∀ e ∈ o.after, Region.binds md e = true → l.getD e.on false = true
theorem clo_set {l : Array Bool} {x : Nat} (h : Clo md ops l) (hx : x ∈ Region.ready md ops l) : Clo md ops (l.setIfInBounds x true) := by
  intro y hy o ho e he hb
  by_cases hyx : x = y
  · subst hyx
    obtain ⟨_, o', ho', hall⟩ := mem_ready.1 hx
    obtain rfl : o = o' := Option.some.inj (ho.symm.trans ho')
    exact getD_set_true (hall e he hb)
  · rw [getD_set_ne false hyx] at hy
    exact getD_set_true (h y hy o ho e he hb)
def reachC (md : Region.Mode) (ops : Array Oper) : Nat → Nat → Nat → Bool
  | 0, _, _ => false
  | n + 1, m, i => Region.waitsFor md ops m i || (List.range ops.size).any fun x => Region.waitsFor md ops m x && reachC md ops n x i
theorem reach_spec {l : Array Bool} (hc : Clo md ops l) (i : Nat) : ∀ (n m : Nat), reachC md ops n m i = true → (∀ o, ops[m]? = some o → ∀ e ∈ o.after, Region.binds md e = true → l.getD e.on false = true) → l.getD i false = true
  | 0, _, h, _ => by simp [reachC] at h
  | n + 1, m, h, hm => by
    simp only [reachC, Bool.or_eq_true, List.any_eq_true, Bool.and_eq_true] at h
    rcases h with h | ⟨x, _, h1, h2⟩
    · obtain ⟨o, ho, e, he, hb, hon⟩ := Region.waitsFor_spec h
      rw [← hon]; exact hm o ho e he hb
    · obtain ⟨o, ho, e, he, hb, hon⟩ := Region.waitsFor_spec h1
      have hx := hm o ho e he hb
      rw [hon] at hx
      exact reach_spec hc i n x h2 (fun o' ho' e' he' hb' => hc x hx o' ho' e' he' hb')
def tree2C (md : Region.Mode) (ops : Array Oper) (m : Nat) : PT → Array Bool → Bool
  | .nil, listed => (Region.ready md ops listed).isEmpty
  | .fl i p, listed => decide (i < ops.size) && decide (i ≠ m) && !listed.getD m false && (decide (ops.size ≤ m) || reachC md ops ops.size m i) && (Region.ready md ops listed).contains i && Region.free md ops listed i && tree2C md ops m p (listed.setIfInBounds i true)
  | .go i p, listed => decide (i < ops.size) && decide (Region.ready md ops listed = [i]) && tree2C md ops m p (listed.setIfInBounds i true)
  | .two i j p q, listed => decide (i < ops.size) && decide (j < ops.size) && decide (Region.ready md ops listed = [i, j]) && decide (p.len = q.len) && tree2C md ops m p (listed.setIfInBounds i true) && tree2C md ops m q (listed.setIfInBounds j true)
def tree2B (ops : Array Oper) (m : Nat) (p : PT) : Bool := Region.noSelect ops && decide (p.len = ops.size) && tree2C .any ops m p (Array.replicate ops.size false)
def wpTree2 (P : Program) (ops : Array Oper) (Q : Exit → Act → World → Prop) (S : World → Prop) (m : Nat) : PT → Bool → Act → World → Prop
  | .nil, _, a, w => Q .normal a w
  | .fl i p, s, a, w => ∀ o, ops[i]? = some o → ∃ v, YieldsS P ops S o v a ∧ wpTree2 P ops Q S m p s (a.put o.dst v) w
  | .go i p, s, a, w => ∀ o, ops[i]? = some o → wpOne P ops Q o (fun a' w' => ((s && i != m) = true → S w') ∧ wpTree2 P ops Q S m p (s && i != m) a' w') a w
  | .two i j p q, s, a, w => (∀ o, ops[i]? = some o → wpOne P ops Q o (fun a' w' => ((s && i != m) = true → S w') ∧ wpTree2 P ops Q S m p (s && i != m) a' w') a w) ∧
      (∀ o, ops[j]? = some o → wpOne P ops Q o (fun a' w' => ((s && j != m) = true → S w') ∧ wpTree2 P ops Q S m q (s && j != m) a' w') a w)
theorem flag_set {l : Array Bool} {s : Bool} {i m : Nat} (hi : i < l.size) (hs : s = false → l.getD m false = true) : (s && i != m) = false → (l.setIfInBounds i true).getD m false = true := by
  intro h
  by_cases hm : i = m
  · subst hm; simp [hi]
  · have : s = false := by simpa [hm] using h
    exact getD_set_true (hs this)
theorem wpAnyT_tree2 (m : Nat) (hsel : Region.noSelect ops = true) (hQ : ∀ c a (d : Option Tmp) v w, Q (.panic c) (a.put d v) w → Q (.panic c) a w) : ∀ (p : PT) (s : Bool) (listed : Array Bool) (a : Act) (w : World),
    tree2C md ops m p listed = true → listed.size = ops.size → Clo md ops listed → (s = false → listed.getD m false = true) → (listed.getD m false = false → S w) → wpTree2 P ops Q S m p s a w → wpAnyT P md ops Q (fun l w => l.getD m false = false → S w) p.len listed a w
  | .nil, s, listed, a, w, hB, _, _, _, _, h => ⟨by simpa [tree2C] using hB, h⟩
  | .fl i p, s, listed, a, w, hB, hsz, hcl, hs, hS, h => by
    simp only [tree2C, Bool.and_eq_true, decide_eq_true_eq, Bool.not_eq_true', Bool.or_eq_true] at hB
    obtain ⟨⟨⟨⟨⟨⟨hc, him⟩, hml⟩, hre⟩, hr⟩, hf⟩, hB'⟩ := hB
    have h0 : ops[i]? = some ops[i] := Array.getElem?_eq_getElem hc
    obtain ⟨v, hy, h⟩ := h _ h0
    have hri : i ∈ Region.ready md ops listed := by simpa using hr
    refine wpAnyT_first (P := P) (S := S) (T := fun l w => l.getD m false = false → S w) (J := fun l => Clo md ops l ∧ l.getD m false = false) h0 (Region.noSelect_spec hsel) (fun c a w => hQ c a _ v w) (fun l w => by rw [getD_set_ne false him]) (fun l w hJ hT => hT hJ.2) ?_ p.len listed a w (Region.free_spec h0 hf) hri hy hS ⟨hcl, hml⟩
      (wpAnyT_tree2 m hsel hQ p s _ _ w hB' (by simp [hsz]) (clo_set hcl hri) (fun h => getD_set_true (hs h)) (fun _ => hS hml) h)
    intro l j hJ hr1 hr2 hj
    refine ⟨clo_set hJ.1 hr2, ?_⟩
    have hjm : j ≠ m := by
      intro e
      subst e
      obtain ⟨_, o, ho, hall⟩ := mem_ready.1 hr2
      rcases hre with hre | hre
      · have := (Array.getElem?_eq_some_iff.1 ho).1; omega
      · have h9 := reach_spec hJ.1 i _ _ hre (fun o' ho' e' he' hb' => by
          obtain rfl : o' = o := Option.some.inj (ho'.symm.trans ho)
          exact hall e' he' hb')
        rw [getD_both (mem_ready.1 hr1).1] at h9
        cases h9
    rw [getD_set_ne false hjm]
    exact hJ.2
  | .go i p, s, listed, a, w, hB, hsz, hcl, hs, hS, h => by
    simp only [tree2C, Bool.and_eq_true, decide_eq_true_eq] at hB
    obtain ⟨⟨hc, hr⟩, hB'⟩ := hB
    have h0 : ops[i]? = some ops[i] := Array.getElem?_eq_getElem hc
    have hri : i ∈ Region.ready md ops listed := by rw [hr]; simp
    have hfl := flag_set (m := m) (s := s) (l := listed) (i := i) (by omega) hs
    refine ⟨fun h1 => (by rw [hr] at h1; cases h1), fun j hj => ?_⟩
    rw [hr] at hj
    have hji : j = i := by simpa using hj
    subst hji
    refine wpOp_mono (fun a' w' ⟨h1, h2⟩ => ?_) (wpOp_one h0 (h _ h0))
    have hT : (listed.setIfInBounds j true).getD m false = false → S w' := fun h3 => h1 (by
      cases e : (s && j != m) with
      | true => rfl
      | false => rw [hfl e] at h3; cases h3)
    exact ⟨hT, wpAnyT_tree2 m hsel hQ p _ _ a' w' hB' (by simp [hsz]) (clo_set hcl hri) hfl hT h2⟩
  | .two i j p q, s, listed, a, w, hB, hsz, hcl, hs, hS, h => by
    simp only [tree2C, Bool.and_eq_true, decide_eq_true_eq] at hB
    obtain ⟨⟨⟨⟨⟨hci, hcj⟩, hr⟩, hl⟩, hp⟩, hq⟩ := hB
    have hi : ops[i]? = some ops[i] := Array.getElem?_eq_getElem hci
    have hj : ops[j]? = some ops[j] := Array.getElem?_eq_getElem hcj
    refine ⟨fun h1 => (by rw [hr] at h1; cases h1), fun x hx => ?_⟩
    have hxr := hx
    rw [hr] at hx
    have go : ∀ (x : Nat) (r : PT), (∀ (s : Bool) (listed : Array Bool) (a : Act) (w : World), tree2C md ops m r listed = true → listed.size = ops.size → Clo md ops listed → (s = false → listed.getD m false = true) → (listed.getD m false = false → S w) → wpTree2 P ops Q S m r s a w → wpAnyT P md ops Q (fun l w => l.getD m false = false → S w) r.len listed a w) → x < ops.size → x ∈ Region.ready md ops listed → tree2C md ops m r (listed.setIfInBounds x true) = true → ∀ a' w', (((s && x != m) = true → S w') ∧ wpTree2 P ops Q S m r (s && x != m) a' w') →
        ((listed.setIfInBounds x true).getD m false = false → S w') ∧ wpAnyT P md ops Q (fun l w => l.getD m false = false → S w) r.len (listed.setIfInBounds x true) a' w' := by
      intro x r hrec hxs hxr hr a' w' ⟨h1, h2⟩
      have hfl := flag_set (m := m) (s := s) (l := listed) (i := x) (by omega) hs
      have hT : (listed.setIfInBounds x true).getD m false = false → S w' := fun h3 => h1 (by
        cases e : (s && x != m) with
        | true => rfl
        | false => rw [hfl e] at h3; cases h3)
      exact ⟨hT, hrec _ _ a' w' hr (by simp [hsz]) (clo_set hcl hxr) hfl hT h2⟩
    rcases List.mem_cons.1 hx with rfl | hx
    · exact wpOp_mono (go _ p (wpAnyT_tree2 m hsel hQ p) hci hxr hp) (wpOp_one hi (h.1 _ hi))
    · obtain rfl := List.mem_singleton.1 hx
      refine wpOp_mono (fun a' w' hh => ?_) (wpOp_one hj (h.2 _ hj))
      have := go _ q (wpAnyT_tree2 m hsel hQ q) hcj hxr hq a' w' hh
      rw [hl]
      exact this
theorem wp_region_tree2 {id : Nat} {a : Act} {w : World} (m : Nat) (p : PT) (S : World → Prop) (hm : P.follows .mixedOrders = true) (hB : tree2B ops m p = true) (hQ : ∀ c a (d : Option Tmp) v w, Q (.panic c) (a.put d v) w → Q (.panic c) a w) (hS : S w.drew)
    (h : wpTree2 P ops Q S m p true a w.drew) : (Code.region id ops true).wp P Q a w := by
  simp only [tree2B, Bool.and_eq_true, decide_eq_true_eq] at hB
  obtain ⟨⟨hsel, hlen⟩, hpl⟩ := hB
  refine wp_region_any hm (wpAny_of_T (T := fun l w => l.getD m false = false → S w) _ _ _ _ ?_)
  rw [← hlen]
  refine wpAnyT_tree2 m hsel hQ p true _ a _ (by rw [hlen]; exact hpl) (by simp [hlen]) ?_ (fun h => by cases h) (fun _ => hS) h
  intro x hx
  simp [Array.getD] at hx
theorem wpTree2_nil {m : Nat} {s : Bool} {a : Act} {w : World} (h : Q .normal a w) : wpTree2 P ops Q S m .nil s a w := h
theorem wpTree2_fl {m i : Nat} {s : Bool} {o : Oper} {p : PT} {a : Act} {w : World} (v : Value) (h0 : ops[i]? = some o) (hg : o.guard = none) (hv : ∀ w', S w' → (execOp a.eval o).run P w' = .ok (.value v) w') (h : wpTree2 P ops Q S m p s (a.put o.dst v) w) :
    wpTree2 P ops Q S m (.fl i p) s a w := fun o' ho' => by
  rw [h0] at ho'
  obtain rfl := Option.some.inj ho'
  exact ⟨v, fun w' hS => .inl ⟨by simp [Region.wanted, hg], .inl (hv w' hS)⟩, h⟩
theorem wpTree2_go {m i : Nat} {s : Bool} {o : Oper} {p : PT} {a : Act} {w : World} (h0 : ops[i]? = some o) (hg : o.guard = none) (s' : Bool) (hs : (s && i != m) = s')
    (h : ∀ K : Act → World → Prop, (∀ a' w', (s' = true → S w') → wpTree2 P ops Q S m p s' a' w' → K a' w') → o.wp P a w K Q) : wpTree2 P ops Q S m (.go i p) s a w := fun o' ho' => by
  rw [h0] at ho'
  obtain rfl := Option.some.inj ho'
  rw [hs]
  exact wpOne_step (fun K hK => by rw [if_pos (by simp [Region.wanted, hg])]; exact h K (fun a' w' h1 h2 => hK a' w' ⟨h1, h2⟩))
theorem wpTree2_step {m i : Nat} {s : Bool} {o : Oper} {p : PT} {a : Act} {w : World} (h0 : ops[i]? = some o) (s' : Bool) (hs : (s && i != m) = s')
    (h : ∀ K : Act → World → Prop, (∀ a' w', (s' = true → S w') → wpTree2 P ops Q S m p s' a' w' → K a' w') → if Region.wanted o (yielded ops a.tmps) then o.wp P a w K Q else K (a.put o.dst undef) w) : wpTree2 P ops Q S m (.go i p) s a w := fun o' ho' => by
  rw [h0] at ho'
  obtain rfl := Option.some.inj ho'
  rw [hs]
  exact wpOne_step (fun K hK => h K (fun a' w' h1 h2 => hK a' w' ⟨h1, h2⟩))
theorem wpTree2_two {m i j : Nat} {s : Bool} {p q : PT} {a : Act} {w : World} (h1 : wpTree2 P ops Q S m (.go i p) s a w) (h2 : wpTree2 P ops Q S m (.go j q) s a w) : wpTree2 P ops Q S m (.two i j p q) s a w := ⟨h1, h2⟩
end
end Go.Proofs.Ytakbijpcfnipoaa.R
