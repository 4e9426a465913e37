/- What the statements of this seat lean on: the functions that they reach, walked. -/
import Derived.Test.YtakbijpcfnipoaaZm6
set_option linter.unusedSimpArgs false
set_option linter.unusedVariables false

set_option linter.unusedVariables false
set_option linter.unusedSimpArgs false
namespace Go.Proofs.Ytakbijpcfnipoaa.A
open Go.RowKit Go.Proofs.YtakbijpcfnipoaaW.PrintWords Go.Proofs.YtakbijpcfnipoaaW.PrintLast Go.Proofs.YtakbijpcfnipoaaW.PrintMore
open Go.Proofs.Ytakbijpcfnipoaa.PA Go.Proofs.Ytakbijpcfnipoaa.Lf
theorem info65 : (Try.prog.info? 65).map (fun i => (i.zero, i.size, i.bytes)) = some (some (.map none), 1, 8) := by kernel_rfl
def Wks (W : World) (k : Nat) (s c : List Int) (bs : List Nat) : Prop := ∀ (j b : Nat), bs[j]? = some b → Wk W b k 29791 (works k (dist s) (c.take j)) (fun _ => True)
theorem Wk.ne {W : World} {b k N : Nat} {m : List Int → Int} {dn : List Int → Prop} (h : Wk W b k N m dn) {g e : Nat} {cells : Array Value} (hg : W.heap[g]? = some (.cells cells e (0, 0))) : b ≠ g := by
  obtain ⟨D, ⟨es, clock, hb, _⟩, _⟩ := h
  intro e'
  subst e'
  rw [hb] at hg
  cases hg
theorem Wks.below {W W' : World} {k : Nat} {s c : List Int} {bs : List Nat} (h : Wks W k s c bs) (hb : Below W.heap.size W W') : Wks W' k s c bs := fun j b e => (h j b e).of (hb.block b (h j b e).lt)
theorem Wks.grown {W W' : World} {k : Nat} {s c : List Int} {bs : List Nat} (h : Wks W k s c bs) {v : Value} (hv : ∀ g, v.ownBlock = some g → ∃ cells, W.heap[g]? = some (.cells cells 65 (0, 0))) (hg : W.grownBy W' v.ownBlock) : Wks W' k s c bs := fun j b e =>
  (h j b e).kept hg (fun e' => by obtain ⟨cells, hc⟩ := hv b e'.symm; exact (h j b e).ne hc rfl)
theorem hdD_bd {k : Nat} (hk1 : 1 ≤ k) (hk3 : k ≤ 3) (c : List Int) (w : List Int → Int) (hc : Fls c) (hw : Lip k w) (h0 : ∀ s, Pos k s → 0 ≤ w s) (x : List Int) (hx : Pos k x) : 0 ≤ hdD (bkF k w c) x ∧ hdD (bkF k w c) x ≤ 90 := by
  have hb := bkF_back hk1 c w hc hw h0
  cases c with
  | nil => simp [bkF, hdD]
  | cons f c =>
    have h1 : Pos k (chp (fun x => nxt k w f x + hdD (bkF k (nxt k w f) c) x) f (allF k 0)).1 := by
      have hb' : Back k w (f :: c) ((chp (fun x => nxt k w f x + hdD (bkF k (nxt k w f) c) x) f (allF k 0)).1 :: bkF k (nxt k w f) c) := hb
      exact hb'.1
    exact dist_bd hk3 h1 hx
theorem bk_set (m : Nat) (X : List Int) (tl : List (List Int)) : (List.replicate (m + 1) ([] : List Int) ++ tl).set m X = List.replicate m [] ++ X :: tl := by
  rw [List.replicate_succ', List.append_assoc, List.set_append_right _ _ (by simp)]
  simp
theorem bk_cons {k m : Nat} {s c : List Int} {f : Int} {X : List Int} (hm : m < c.length) (hf : c.getD m 0 = f) (hX : (chp (fun x => works k (dist s) (c.take (m + 1)) x + hdD (bkF k (works k (dist s) (c.take (m + 1))) (c.drop (m + 1))) x) f (allF k 0)).1 = X) :
    bkF k (works k (dist s) (c.take m)) (c.drop m) = X :: bkF k (works k (dist s) (c.take (m + 1))) (c.drop (m + 1)) := by
  have e1 : c.drop m = f :: c.drop (m + 1) := by
    rw [List.drop_eq_getElem_cons hm, ← hf, List.getD_eq_getElem?_getD, List.getElem?_eq_getElem hm]; rfl
  have e2 : nxt k (works k (dist s) (c.take m)) f = works k (dist s) (c.take (m + 1)) := by
    rw [List.take_add_one, List.getElem?_eq_getElem hm, ← works_snoc]
    simp only [Option.toList]
    rw [← hf, List.getD_eq_getElem?_getD, List.getElem?_eq_getElem hm]
    rfl
  rw [e1]
  show (chp (fun x => nxt k (works k (dist s) (c.take m)) f x + hdD (bkF k (nxt k (works k (dist s) (c.take m)) f) (c.drop (m + 1))) x) f (allF k 0)).1 :: bkF k (nxt k (works k (dist s) (c.take m)) f) (c.drop (m + 1)) = _
  rw [e2, hX]
set_option maxHeartbeats 8000000 in
set_option maxRecDepth 100000 in
theorem best_c {k : Nat} (hk1 : 1 ≤ k) (hk3 : k ≤ 3) (s0 s1 s2 : Int) (C : Option Addr) (n cc : Nat) (s : List Int) (hs : Pos k s) (es : pad s = sv s0 s1 s2) (c : List Int) (hcl : c.length = n) (hn : n ≤ 40) (hcf : Fls c) (w : World)
    (HCALL : 0 < n → ∃ ad, C = some ad ∧ ∀ i, i < n → w.cell? (ad.add i) = some (.int .i64 (c.getD i 0))) :
    Calls Try.prog 51 #[hv k s0 s1 s2 (.slice C n cc)] w fun e w' => ∃ v, e = .returned v ∧ Kd.S (Kd.slice 3 (Kd.int .i64)) 22 w' w.heap.size (fun _ => True) v (bkF k (dist s) c) ∧ Below w.heap.size w w' := by
  obtain ⟨B, hB⟩ : ∃ B, w.heap.size = B := ⟨_, rfl⟩
  have HF1 := Lib.hid (first_c hk1 hk3 s0 s1 s2 C n cc s hs es)
  have hH0 : HallAt B (k : Int) s0 s1 s2 (.slice C n cc) (w.alloc (Obj.cells #[Value.int IntKind.i64 ↑k, Value.int IntKind.i64 s0, Value.int IntKind.i64 s1, Value.int IntKind.i64 s2, Value.slice C n cc] 54)) := ⟨by rw [← hB]; simp [go_sem], by rw [← hB]; simp [go_sem], by rw [← hB]; simp [go_sem], by rw [← hB]; simp [go_sem], by rw [← hB]; simp [go_sem]⟩
  have hB0 : Below B w (w.alloc (Obj.cells #[Value.int IntKind.i64 ↑k, Value.int IntKind.i64 s0, Value.int IntKind.i64 s1, Value.int IntKind.i64 s2, Value.slice C n cc] 54)) := by rw [← hB]; exact (Below.refl _ w).alloc (Nat.le_refl _) _
  have hz0 : (w.alloc (Obj.cells #[Value.int IntKind.i64 ↑k, Value.int IntKind.i64 s0, Value.int IntKind.i64 s1, Value.int IntKind.i64 s2, Value.slice C n cc] 54)).heap.size = B + 1 := by simp [hB]
  have HCA := Lib.hid HCALL
  clear HCALL
  go_enter Try.func51, Try.ntmps51
  go_upto_region 1 with fail
  generalize (w.alloc (Obj.cells #[Value.int IntKind.i64 ↑k, Value.int IntKind.i64 s0, Value.int IntKind.i64 s1, Value.int IntKind.i64 s2, Value.slice C n cc] 54)) = W0 at *
  obtain ⟨g0, g1, g2, g3, g4⟩ := id hH0
  have HH0 := Lib.hid hH0
  have HB0 := Lib.hid hB0
  clear hH0 hB0
  go_upto_region 2 with (first | (go_at_call 52; (with_reducible refine (HF1.out _).mono ?_); rintro e w1 ⟨b0, rfl, hb0, hW1, hb1⟩) | (refine Kd.S_lit mpK (B + 1) 65 ?hg (N := 12) ?hd (w0 := w1) (xs := [b0]) (inner := [.map (some b0)]) (ok := fun _ => True) (okp := fun _ => True) ?hr ?hp (fun _ hk => hk) trivial ?hbw ?hbs (by simp) ?_; (case hd => rfl); (case hg => rfl); (case hr => first | (go_simp; done) | (go_simp; rfl))))
  case hp => exact Reps.one (show mpK.M w1 (B + 1) (fun _ => False) b0 [.map (some b0)] from rfl) (Reps.none _ _)
  case hbw => exact Below.refl _ _
  case hbs => have := hb1.size; omega
  intro v1 w2 hS1 hB1 hG1 gO hO1 hO2
  have HH2 := Lib.hid ((HH0.out.of (hb1.block B (by omega))).of (hG1.block B (by have := hb1.size; omega) (by simp)))
  have HW2 : Hid (Wks w2 k s c [b0]) := Lib.hid (fun j b e => by
    have hj : j = 0 := by
      have := (List.getElem?_eq_some_iff.1 e).1
      simp at this; exact this
    subst hj
    simp at e
    subst e
    exact hW1.kept hG1 (by simp))
  have HS2 := Lib.hid hS1
  have HB2 : Hid (Below B w w2) := Lib.hid ((HB0.out.trans (hb1.mono (by omega))).grown hG1 (by have := hb1.size; omega) (fun j e => by cases e))
  clear g0 g1 g2 g3 g4 HH0 HB0 hW1 hb1 hS1 hB1 hG1 hO1 hO2 gO hz0 HF1
  go_upto_region 2 with fail
  obtain ⟨g0, g1, g2, g3, g4⟩ := id HH2.out
  go_wp2_with fail
  clear g0 g1 g2 g3 g4
  go_loopw [3, 16] (fun v3 v16 wr => ∃ (i : Nat) (bs : List Nat), v16 = .int .i64 (i : Int) ∧ i ≤ n ∧ bs.length = i + 1 ∧ Hid (Kd.S mpK 65 wr (B + 1) (fun _ => True) v3 bs) ∧ Hid (Wks wr k s c bs) ∧ Hid (HallAt B (k : Int) s0 s1 s2 (.slice C n cc) wr) ∧ Hid (Below B w wr)) (fun _ v16 _ => n - (intOf v16).toNat)
  case atStart => exact ⟨0, [b0], rfl, Nat.zero_le _, rfl, HS2, HW2, HH2, HB2⟩
  case round =>
    rename World => wr
    obtain ⟨i, bs, rfl, hi, hbl, HSr, HWr, HHr, HBr⟩ := hrel
    clear HS2 HW2 HH2 HB2
    by_cases hlt : i < n
    · have hlt' : (i : Int) < (n : Int) := by omega
      have hi0 : (0 : Int) ≤ (i : Int) := by omega
      obtain ⟨ad, rfl, hca⟩ := HCA.out (by omega)
      have hcl0 := hca i hlt
      have hcr := (HBr.out.cell (by rw [← hB]; exact World.block_lt_of_cell? w _ hcl0)).trans hcl0
      obtain ⟨f, hf⟩ : ∃ f, c.getD i 0 = f := ⟨_, rfl⟩
      rw [hf] at hcr
      have hfm : f ∈ c := by rw [← hf, List.getD_eq_getElem?_getD, List.getElem?_eq_getElem (by omega)]; exact List.getElem_mem _
      obtain ⟨g, cap, rfl, hg1, hg2, _⟩ := Kd.S_form HSr.out (by omega)
      have hSr := HSr.out
      rw [hbl] at hSr
      have hget := Kd.S_get hSr 0 (i : Int) hi0 (by omega)
      obtain ⟨cs, _, hM, hcel⟩ := hget
      rw [Int.toNat_natCast] at hM hcel
      obtain ⟨bi, hbi⟩ : ∃ bi, bs.getD i 0 = bi := ⟨_, rfl⟩
      rw [hbi] at hM
      have hM' : cs = [.map (some bi)] := hM
      subst hM'
      have hci : wr.cell? ⟨g, i, none⟩ = some (.map (some bi)) := by
        have := hcel 0 (.map (some bi)) rfl
        rw [show i * mpK.sz + 0 = i from Nat.mul_one i] at this
        have e9 : (⟨g, 0, none⟩ : Addr).add i = ⟨g, i, none⟩ := by
          unfold Addr.add
          split
          · next h => subst h; rfl
          · simp
        rwa [e9] at this
      have hbe : bs[i]? = some bi := by rw [← hbi, List.getD_eq_getElem?_getD, List.getElem?_eq_getElem (by omega)]; rfl
      have hWi := HWr.out i bi hbe
      have HX : Hid (∀ w', Below wr.heap.size wr w' → HallAt B (k : Int) s0 s1 s2 (.slice (some ad) n cc) w' ∧ w'.cell? ⟨g, i, none⟩ = some (.map (some bi))) := Lib.hid (fun w' h =>
        ⟨HHr.out.of (h.block B HHr.out.lt), (h.cell (World.block_lt_of_cell? wr _ hci)).trans hci⟩)
      have HWI := Lib.hid hWi
      have HFL : Hid (Fl f) := Lib.hid (hcf f hfm)
      have HNX : Hid (nxt k (works k (dist s) (c.take i)) f = works k (dist s) (c.take (i + 1))) := Lib.hid (by
        rw [List.take_add_one, List.getElem?_eq_getElem (by omega), ← works_snoc]
        simp only [Option.toList]
        rw [← hf, List.getD_eq_getElem?_getD, List.getElem?_eq_getElem (by omega)]
        rfl)
      have HBD : Hid (∀ x, Pos k x → 0 ≤ works k (dist s) (c.take i) x ∧ works k (dist s) (c.take i) x ≤ 100000) := Lib.hid (fun x hx => by
        have h9 := works_bd hk1 hs hk3 (c.take i) (dist s) 90 (fun y hy => hcf y (List.mem_of_mem_take hy)) (first_lip k hs) (fun y hy => dist_bd hk3 hs hy) x hx
        have h8 : (c.take i).length ≤ 40 := by rw [List.length_take]; omega
        omega)
      have HAF := Lib.hid (fun W hW => after_c hk1 hk3 s0 s1 s2 (some ad) n cc bi (works k (dist s) (c.take i)) f HFL.out HBD.out (N := 29791) (by omega) W hW)
      clear hca hcl0 hf hfm hSr hcel hci hbe hWi hbi hM
      go_upto_region 5 with fail
      clear hcr
      have hib : (i : Int) < (i : Int) + 1 := by omega
      apply R.wp_region_tree2 9 (.fl 0 (.fl 1 (.fl 2 (.fl 3 (.fl 4 (.fl 5 (.fl 6 (.go 7 (.go 8 (.go 9 (.go 10 .nil))))))))))) (fun w' => Below wr.heap.size wr w')
      case hm => kernel_rfl
      case hB => kernel_rfl
      case hQ => exact fun _ _ d _ _ h => by cases d <;> exact h
      case hS => exact (Below.refl _ _).drew
      case h =>
        refine R.wpTree2_fl (.slice (some ⟨g, 0, none⟩) (i + 1) cap) rfl rfl (fun w' hS => by obtain ⟨⟨g0, g1, g2, g3, g4⟩, q0⟩ := HX.out w' hS; go_simp) ?_
        try go_frame
        refine R.wpTree2_fl (hv k s0 s1 s2 (.slice (some ad) n cc)) rfl rfl (fun w' hS => by obtain ⟨⟨g0, g1, g2, g3, g4⟩, q0⟩ := HX.out w' hS; go_simp) ?_
        try go_frame
        refine R.wpTree2_fl (.slice (some ⟨g, 0, none⟩) (i + 1) cap) rfl rfl (fun w' hS => by obtain ⟨⟨g0, g1, g2, g3, g4⟩, q0⟩ := HX.out w' hS; go_simp) ?_
        try go_frame
        refine R.wpTree2_fl (.int .i64 (i : Int)) rfl rfl (fun w' hS => by obtain ⟨⟨g0, g1, g2, g3, g4⟩, q0⟩ := HX.out w' hS; go_simp) ?_
        try go_frame
        refine R.wpTree2_fl (.pointer (some ⟨g, i, none⟩)) rfl rfl (fun w' hS => by obtain ⟨⟨g0, g1, g2, g3, g4⟩, q0⟩ := HX.out w' hS; go_simp) ?_
        try go_frame
        refine R.wpTree2_fl (.map (some bi)) rfl rfl (fun w' hS => by obtain ⟨⟨g0, g1, g2, g3, g4⟩, q0⟩ := HX.out w' hS; go_simp) ?_
        try go_frame
        refine R.wpTree2_fl (.int .i64 f) rfl rfl (fun w' hS => by obtain ⟨⟨g0, g1, g2, g3, g4⟩, q0⟩ := HX.out w' hS; go_simp) ?_
        try go_frame
        refine R.wpTree2_go rfl rfl true rfl (fun K hK => ?_)
        go_simp
        refine (HAF.out wr.drew (HWI.out.of rfl)).mono ?_
        rintro e w3 ⟨b3, rfl, hb3, hW3, hbl3⟩
        have hS3 : Below wr.heap.size wr w3 := (Below.refl _ wr).drew.trans hbl3
        refine hK _ _ (fun _ => hS3) ?_
        clear hK K hbl3
        refine R.wpTree2_go rfl rfl true rfl (fun K hK => ?_)
        go_simp
        refine hK _ _ (fun _ => hS3.alloc hS3.size _) ?_
        clear hK K
        refine R.wpTree2_step rfl false rfl (fun K hK => ?_)
        refine Kd.S_append_step mpK (w0 := w3) (W := w3) (B + 1) rfl (.tmp 21) (.tmp 29) 79 65 (.map none) 8 rfl Try.underlying79 info65 rfl (by decide) (by decide) (.slice (some ⟨g, 0, none⟩) (i + 1) cap) bs b3 [.map (some b3)] (fun _ => True) (fun _ => False) rfl rfl rfl (fun _ h => h.elim) (fun _ _ => trivial) ?aO ?aB ?aS ?aL ?_
        case aO =>
          have h9 := Kd.S_below HSr.out hS3
          rw [hbl] at h9
          exact Kd.S_mono h9 (fun _ _ => ⟨trivial, fun h => h⟩)
        case aB => exact Below.refl _ _
        case aS => have := hS3.size; omega
        case aL => rw [hbl]; omega
        intro v4 w4 hS4 hB4 hG4 _
        refine hK _ _ (fun h => by cases h) ?_
        clear hK K
        refine R.wpTree2_go rfl rfl false rfl (fun K hK => ?_)
        go_simp
        refine hK _ _ (fun h => by cases h) ?_
        clear hK K
        refine R.wpTree2_nil ?_
        have hty : ∀ g', (Value.slice (some ⟨g, 0, none⟩) (i + 1) cap).ownBlock = some g' → ∃ cells, w3.heap[g']? = some (.cells cells 65 (0, 0)) := by
          have h9 := Kd.S_typed (Kd.S_below HSr.out hS3)
          rw [hbl] at h9
          exact h9
        have HW4 : Hid (Wks w4 k s c (bs ++ [b3])) := Lib.hid (by
          refine Wks.grown (W := w3) ?_ hty hG4
          intro j b hj
          by_cases hjl : j < bs.length
          · rw [List.getElem?_append_left hjl] at hj
            exact (HWr.out.below hS3) j b hj
          · rw [List.getElem?_append_right (by omega)] at hj
            have h8 : j - bs.length = 0 := by
              have := (List.getElem?_eq_some_iff.1 hj).1
              simp at this; exact this
            rw [h8] at hj
            simp at hj
            subst hj
            obtain rfl : j = i + 1 := by omega
            rw [← HNX.out]; exact hW3)
        have HS4 := Lib.hid hS4
        have HB4 : Hid (Below B w w4) := Lib.hid ((HBr.out.trans (hS3.mono (by have := HBr.out.size; omega))).grown hG4 (by have := hS3.size; omega) (fun j e => (by have e : g = j := (Option.some.inj e); omega)))
        have HH4 : Hid (HallAt B (k : Int) s0 s1 s2 (.slice (some ad) n cc) w4) := Lib.hid ((HX.out w3 hS3).1.of (hG4.block B (HX.out w3 hS3).1.lt (fun e => by
          have e : B = g := by injection e
          omega)))
        have HBL : Hid ((bs ++ [b3]).length = i + 2) := Lib.hid (by rw [List.length_append, hbl]; rfl)
        clear hS4 hB4 hG4 hty hS3 hW3 hib
        go_wp2_with fail
        exact ⟨⟨i + 1, bs ++ [b3], by go_num, by omega, HBL.out, HS4, HW4, HH4, HB4⟩, by simp [intOf]; omega⟩
    · obtain rfl : i = n := by omega
      have hge : ¬ (i : Int) < (i : Int) := by omega
      go_upto_region 7 with fail
      clear hge
      obtain ⟨g0, g1, g2, g3, g4⟩ := id HHr.out
      have hi0 : (0 : Int) ≤ (i : Int) := by omega
      go_upto_region 8 with (refine Kd.S_make (Kd.slice 3 (Kd.int .i64)) (w0 := wr) wr.heap.size 22 rfl (N := 35) rfl 23 (.tmp 34) (.tmp 34) rfl (i : Int) rfl rfl Try.underlying23 (.slice none 0 0) 24 info22 rfl (by decide) (by decide) [] (ok := fun _ => True) (okp := fun _ => True) ?mz (fun _ h => h) trivial hi0 ?ml (Below.refl _ _) (Nat.le_refl _) ?_)
      case mz => exact ⟨_, rfl, Kd.R_nil _ _ _ _ _⟩
      case ml => omega
      intro vo wo hSo hBo hGo ob hO1 hO2
      clear g0 g1 g2 g3 g4
      obtain ⟨Bo, hBoe⟩ : ∃ Bo, wr.heap.size = Bo := ⟨_, rfl⟩
      rw [hBoe] at hSo hBo hO2
      have HSO : Hid (Kd.S (Kd.slice 3 (Kd.int .i64)) 22 wo Bo (fun _ => True) vo (List.replicate i [] ++ bkF k (works k (dist s) (c.take i)) (c.drop i))) := Lib.hid (by
        rw [List.drop_of_length_le (Nat.le_of_eq hcl)]; simpa [bkF] using hSo)
      have HBO := Lib.hid hBo
      have HBE := Lib.hid hBoe
      have HBL := Lib.hid hbl
      have HCL := Lib.hid hcl
      have hBB : B + 1 ≤ Bo := by rw [← hBoe]; have := HHr.out.lt; omega
      have HFN : Hid (∀ x W, Pos k x → Below wo.heap.size wo W → Calls Try.prog 69 (#[pad x] ++ #[]) W fun e W' => e = .returned (.int .i64 (hdD (bkF k (works k (dist s) (c.take i)) (c.drop i)) x)) ∧ Below W.heap.size W W') := Lib.hid (fun x W hx hW => by
        rw [List.drop_of_length_le (Nat.le_of_eq hcl)]
        exact zero_c _ _ _ W)
      have HEN : Hid (Enters 69) := Lib.hid (enters_mk Try.func69 (by kernel_rfl) rfl)
      have HH0 := HHr.out.of (hBo.block B (by omega))
      obtain ⟨g0, g1, g2, g3, g4⟩ := HH0
      clear hSo hBo hGo hO1 hO2 hBoe hbl hcl
      go_wp2_with fail
      clear g0 g1 g2 g3 g4
      go_loopw [7, 8] (fun v7 v8 wq => ∃ (j : Nat) (gf : Nat) (caps : Array Value), v7 = .func (.func gf) #[] caps ∧ v8 = .int .i64 ((j : Int) - 1) ∧ j ≤ i ∧ Hid (Enters gf) ∧ Hid (∀ x W, Pos k x → Below wq.heap.size wq W → Calls Try.prog gf (#[pad x] ++ caps) W fun e W' => e = .returned (.int .i64 (hdD (bkF k (works k (dist s) (c.take j)) (c.drop j)) x)) ∧ Below W.heap.size W W') ∧ Hid (Kd.S (Kd.slice 3 (Kd.int .i64)) 22 wq Bo (fun _ => True) vo (List.replicate j [] ++ bkF k (works k (dist s) (c.take j)) (c.drop j))) ∧ Hid (Below Bo wr wq)) (fun _ v8 _ => (intOf v8 + 1).toNat)
      case atStart => exact ⟨i, 69, #[], rfl, rfl, Nat.le_refl _, HEN, HFN, HSO, HBO⟩
      case round =>
        rename World => wq
        obtain ⟨j, gf, caps, rfl, rfl, hji, HE, HF, HS, HB⟩ := hrel
        clear HSO HBO HFN HEN
        cases j with
        | zero =>
          rw [show ((0 : Nat) : Int) - 1 = -1 from rfl]
          clear HSr HWr
          go_wp2_with fail
          go_ret
          have hz1 := HBr.out.size
          have hz2 := HBE.out
          exact ⟨_, rfl, Kd.S_lower HS.out (by rw [hB]; omega), by rw [hB]; exact HBr.out.trans (HB.out.mono (by omega))⟩
        | succ m =>
          rw [show ((m + 1 : Nat) : Int) - 1 = (m : Int) by omega]
          have hm0 : (0 : Int) ≤ (m : Int) := by omega
          have hm40 : (m : Int) ≤ 40 := by omega
          obtain ⟨ad, rfl, hca⟩ := HCA.out (by omega)
          have hcl0 := hca m (by omega)
          have hcr := ((HB.out.cell (p := ad.add m) (by have := World.block_lt_of_cell? w _ hcl0; omega)).trans (HBr.out.cell (by rw [← hB]; exact World.block_lt_of_cell? w _ hcl0))).trans hcl0
          obtain ⟨f, hf⟩ : ∃ f, c.getD m 0 = f := ⟨_, rfl⟩
          rw [hf] at hcr
          have hml : m < c.length := by rw [HCL.out]; omega
          have hfm : f ∈ c := by rw [← hf, List.getD_eq_getElem?_getD, List.getElem?_eq_getElem hml]; exact List.getElem_mem _
          obtain ⟨g, cap, rfl, hg1, hg2, _⟩ := Kd.S_form HSr.out (by rw [HBL.out]; omega)
          have hSr := HSr.out
          rw [HBL.out] at hSr
          obtain ⟨cs, _, hM, hcel⟩ := Kd.S_get hSr 0 ((m + 1 : Nat) : Int) (by omega) (by omega)
          rw [Int.toNat_natCast] at hM hcel
          obtain ⟨bi, hbi⟩ : ∃ bi, bs.getD (m + 1) 0 = bi := ⟨_, rfl⟩
          rw [hbi] at hM
          have hM' : cs = [.map (some bi)] := hM
          subst hM'
          have hci : wr.cell? ⟨g, m + 1, none⟩ = some (.map (some bi)) := by
            have := hcel 0 (.map (some bi)) rfl
            rw [show (m + 1) * mpK.sz + 0 = m + 1 from Nat.mul_one (m + 1)] at this
            have e9 : (⟨g, 0, none⟩ : Addr).add (m + 1) = ⟨g, m + 1, none⟩ := by
              unfold Addr.add
              split
              · next h => cases h
              · simp
            rwa [e9] at this
          have hbe : bs[m + 1]? = some bi := by rw [← hbi, List.getD_eq_getElem?_getD, List.getElem?_eq_getElem (by rw [HBL.out]; omega)]; rfl
          have hWi := HWr.out (m + 1) bi hbe
          have HFL : Hid (Fl f) := Lib.hid (hcf f hfm)
          have hWL : Lip k (works k (dist s) (c.take (m + 1))) := works_lip hk1 (fun y hy => hcf y (List.mem_of_mem_take hy)) (first_lip k hs)
          have HBD : Hid (∀ x, Pos k x → 0 ≤ works k (dist s) (c.take (m + 1)) x ∧ works k (dist s) (c.take (m + 1)) x ≤ 100000) := Lib.hid (fun x hx => by
            have h9 := works_bd hk1 hs hk3 (c.take (m + 1)) (dist s) 90 (fun y hy => hcf y (List.mem_of_mem_take hy)) (first_lip k hs) (fun y hy => dist_bd hk3 hs hy) x hx
            have h8 : (c.take (m + 1)).length ≤ 40 := by rw [List.length_take]; omega
            omega)
          have HHD := Lib.hid (hdD_bd hk1 hk3 (c.drop (m + 1)) (works k (dist s) (c.take (m + 1))) (fun y hy => hcf y (List.mem_of_mem_drop hy)) hWL (fun x hx => (HBD.out x hx).1))
          obtain ⟨X, hX⟩ : ∃ X, (chp (fun x => works k (dist s) (c.take (m + 1)) x + hdD (bkF k (works k (dist s) (c.take (m + 1))) (c.drop (m + 1))) x) f (allF k 0)).1 = X := ⟨_, rfl⟩
          have hXP : Pos k X := by
            rw [← hX]
            exact (chp_all hk1 _ HFL.out.1 HFL.out.2 (fun x hx => by have := HBD.out x hx; have := HHD.out x hx; omega)).1
          have HXP := Lib.hid hXP
          have HTL := Lib.hid (bk_cons (k := k) (s := s) hml hf hX)
          obtain ⟨tl, htl⟩ : ∃ tl, bkF k (works k (dist s) (c.take (m + 1))) (c.drop (m + 1)) = tl := ⟨_, rfl⟩
          rw [htl] at hX HTL HHD HF HS
          obtain ⟨x0, x1, x2, ex⟩ : ∃ x0 x1 x2, pad X = sv x0 x1 x2 := ⟨_, _, _, rfl⟩
          have HEX := Lib.hid ex
          have HX : Hid (∀ w', Below wq.heap.size wq w' → HallAt B (k : Int) s0 s1 s2 (.slice (some ad) i cc) w' ∧ w'.cell? ⟨g, m + 1, none⟩ = some (.map (some bi)) ∧ w'.cell? (ad.add m) = some (.int .i64 f)) := Lib.hid (fun w' h => by
            have hBq : Below Bo wr w' := HB.out.trans (h.mono (by have := HB.out.size; have := HBE.out; omega))
            exact ⟨HHr.out.of (hBq.block B (by omega)), (hBq.cell (p := ⟨g, m + 1, none⟩) (by show g < Bo; rw [← HBE.out]; exact hg2)).trans hci, (h.cell (World.block_lt_of_cell? wq _ hcr)).trans hcr⟩)
          have HCH : Hid (∀ W, Below wq.heap.size wq W → Calls Try.prog 59 #[hv k s0 s1 s2 (.slice (some ad) i cc), .map (some bi), .int .i64 f, .func (.func gf) #[] caps] W fun e w' => e = .returned (sv x0 x1 x2) ∧ Below W.heap.size W w') := Lib.hid (fun W hW => by
            have hWb : Below Bo wr W := HB.out.trans (hW.mono (by have := HB.out.size; have := HBE.out; omega))
            have h9 := cheapest_c hk1 hk3 s0 s1 s2 (some ad) i cc bi (works k (dist s) (c.take (m + 1))) (hdD tl) f gf caps HE.out HBD.out (fun x hx => by have := HHD.out x hx; omega) W (N := 29791) (hWi.of (hWb.block bi (by rw [← HBE.out]; exact hWi.lt))) (fun x W' hx hW' => HF.out x W' hx (hW.trans (hW'.mono hW.size)))
            rw [hX, ex] at h9
            exact h9)
          have hwr : IntKind.i64.wrap ((m : Int) + 1) = (m : Int) + 1 := IntWalk.i64_in _ (by omega)
          have hmt : ((m : Int) + 1).toNat = m + 1 := by omega
          have hml' : (m : Int) + 1 < (bs.length : Int) := by rw [HBL.out]; omega
          have hml2 : m + 1 < bs.length := by rw [HBL.out]; omega
          have HLO : Hid ((List.replicate (m + 1) ([] : List Int) ++ tl).length = i) := Lib.hid (by rw [List.length_append, List.length_replicate, ← htl, bkF_len, List.length_drop, HCL.out]; omega)
          have hm1 : (0 : Int) ≤ (m : Int) + 1 := by omega
          have hmi : (m : Int) < (i : Int) := by omega
          clear hca hcl0 hf hfm hSr hcel hci hbe hbi hM hX hXP htl ex hWL hWi hcr
          go_upto_region 12 with fail
          apply R.wp_region_tree2 15 (.fl 0 (.fl 1 (.fl 2 (.fl 3 (.fl 4 (.fl 5 (.fl 6 (.fl 7 (.fl 8 (.fl 9 (.fl 10 (.fl 11 (.two 12 13 (.go 13 (.go 14 .nil)) (.go 12 (.go 14 .nil))))))))))))))) (fun w' => Below wq.heap.size wq w')
          case hm => kernel_rfl
          case hB => kernel_rfl
          case hQ => exact fun _ _ d _ _ h => by cases d <;> exact h
          case hS => exact (Below.refl _ _).drew
          case h =>
          refine R.wpTree2_fl (hv k s0 s1 s2 (.slice (some ad) i cc)) rfl rfl (fun w' hS => by obtain ⟨⟨g0, g1, g2, g3, g4⟩, q0, q1⟩ := HX.out w' hS; go_simp) ?_
          try go_frame
          refine R.wpTree2_fl (.slice (some ⟨g, 0, none⟩) bs.length cap) rfl rfl (fun w' hS => by obtain ⟨⟨g0, g1, g2, g3, g4⟩, q0, q1⟩ := HX.out w' hS; go_simp) ?_
          try go_frame
          refine R.wpTree2_fl (.int .i64 (m : Int)) rfl rfl (fun w' hS => by obtain ⟨⟨g0, g1, g2, g3, g4⟩, q0, q1⟩ := HX.out w' hS; go_simp) ?_
          try go_frame
          refine R.wpTree2_fl (.int .i64 ((m : Int) + 1)) rfl rfl (fun w' hS => by obtain ⟨⟨g0, g1, g2, g3, g4⟩, q0, q1⟩ := HX.out w' hS; go_simp) ?_
          try go_frame
          refine R.wpTree2_fl (.pointer (some ⟨g, m + 1, none⟩)) rfl rfl (fun w' hS => by obtain ⟨⟨g0, g1, g2, g3, g4⟩, q0, q1⟩ := HX.out w' hS; go_simp) ?_
          try go_frame
          refine R.wpTree2_fl (.map (some bi)) rfl rfl (fun w' hS => by obtain ⟨⟨g0, g1, g2, g3, g4⟩, q0, q1⟩ := HX.out w' hS; go_simp) ?_
          try go_frame
          refine R.wpTree2_fl (.pointer (some ⟨B, 4, none⟩)) rfl rfl (fun w' hS => by obtain ⟨⟨g0, g1, g2, g3, g4⟩, q0, q1⟩ := HX.out w' hS; go_simp) ?_
          try go_frame
          refine R.wpTree2_fl (.slice (some ad) i cc) rfl rfl (fun w' hS => by obtain ⟨⟨g0, g1, g2, g3, g4⟩, q0, q1⟩ := HX.out w' hS; go_simp) ?_
          try go_frame
          refine R.wpTree2_fl (.int .i64 (m : Int)) rfl rfl (fun w' hS => by obtain ⟨⟨g0, g1, g2, g3, g4⟩, q0, q1⟩ := HX.out w' hS; go_simp) ?_
          try go_frame
          refine R.wpTree2_fl (.pointer (some (ad.add m))) rfl rfl (fun w' hS => by obtain ⟨⟨g0, g1, g2, g3, g4⟩, q0, q1⟩ := HX.out w' hS; go_simp) ?_
          try go_frame
          refine R.wpTree2_fl (.int .i64 f) rfl rfl (fun w' hS => by obtain ⟨⟨g0, g1, g2, g3, g4⟩, q0, q1⟩ := HX.out w' hS; go_simp) ?_
          try go_frame
          refine R.wpTree2_fl (.func (.func gf) #[] caps) rfl rfl (fun w' hS => by obtain ⟨⟨g0, g1, g2, g3, g4⟩, q0, q1⟩ := HX.out w' hS; go_simp) ?_
          try go_frame
          refine R.wpTree2_two ?A1 ?A2
          case A1 =>
            refine R.wpTree2_go rfl rfl true rfl (fun K hK => ?_)
            go_simp
            refine (HCH.out _ (Below.refl _ _).drew).mono ?_
            rintro e w5 ⟨rfl, hb5⟩
            have hS5 : Below wq.heap.size wq w5 := (Below.refl _ wq).drew.trans hb5
            refine hK _ _ (fun _ => hS5) ?_
            clear hK K hb5
            refine R.wpTree2_go rfl rfl true rfl (fun K hK => ?_)
            go_simp
            refine hK _ _ (fun _ => hS5.alloc hS5.size _) ?_
            clear hK K
            have hsp := SpotsAt.new w5 0 0 0
            have hS6 : Below wq.heap.size wq (w5.alloc (Obj.cells #[Value.int IntKind.i64 0, Value.int IntKind.i64 0, Value.int IntKind.i64 0] 52)) := hS5.alloc hS5.size _
            have hTq : wq.heap.size ≤ w5.heap.size := hS5.size
            clear hS5
            obtain ⟨T, hT⟩ : ∃ T, w5.heap.size = T := ⟨_, rfl⟩
            rw [hT] at hsp hTq ⊢
            clear hT
            generalize (w5.alloc (Obj.cells #[Value.int IntKind.i64 0, Value.int IntKind.i64 0, Value.int IntKind.i64 0] 52)) = w6 at *
            have HSP := Lib.hid hsp
            obtain ⟨q0, q1, q2, q3, q4, q5, _⟩ := hsp
            refine R.wpTree2_go rfl rfl true rfl (fun K hK => ?_)
            go_simp
            have hg7 := grown_put (B := T) (W := w6) (.int .i64 x0) (.int .i64 x1) (.int .i64 x2)
            have hN7 := HSP.out.put x0 x1 x2
            have hS7 : Below wq.heap.size wq (((w6.setCell ⟨T, 0, none⟩ (.int .i64 x0)).setCell ⟨T, 1, none⟩ (.int .i64 x1)).setCell ⟨T, 2, none⟩ (.int .i64 x2)) := hS6.grown hg7 hS6.size (fun j e => by injection e with e; omega)
            refine hK _ _ (fun _ => by first | exact hS7 | (have h9 := hS7; rw [HT.out] at h9; exact h9)) ?_
            clear hK K q0 q1 q2 q3 q4 q5
            generalize (((w6.setCell ⟨T, 0, none⟩ (.int .i64 x0)).setCell ⟨T, 1, none⟩ (.int .i64 x1)).setCell ⟨T, 2, none⟩ (.int .i64 x2)) = w7 at *
            clear hg7 hS6 HSP
            refine R.wpTree2_nil ?_
            try go_frame
            have HN7 := Lib.hid hN7
            have HS7 := Lib.hid hS7
            have h70 := (HX.out w7 HS7.out).1.h0
            have hk3' : (k : Int) ≤ 3 := by omega
            have hk0' : (0 : Int) ≤ (k : Int) := by omega
            obtain ⟨go', capo, ev, hgo1, hgo2, _⟩ := Kd.S_form HS.out (by rw [HLO.out]; omega)
            rw [HLO.out] at ev
            subst ev
            obtain ⟨oki, c1, hcl1, hM1, hcc1, hfr1, hoki1, hH1⟩ := Kd.S_elem (Kd.S_below HS.out HS7.out) [] (m : Int) hm0 hmi
            have HH2 := Lib.hid (Kd.H_widen hH1)
            obtain ⟨c0, hc0⟩ : ∃ c0, c1 = [c0] := List.length_eq_one_iff.1 hcl1
            subst hc0
            have HCLN : Hid (Calls Try.prog 70 #[.slice (some ⟨T, 0, none⟩) k 3] w7 fun e w' => ∃ v, e = .returned v ∧ Kd.R (Kd.int .i64) 3 w' w7.heap.size (fun _ => True) v X ∧ Below w7.heap.size w7 w') := Lib.hid (by
              have h9 := t3_C (k := k) hk3 HN7.out.h0 HN7.out.h1 HN7.out.h2
              have hPl := HXP.out.len
              have e9 : T3 k x0 x1 x2 = X := by
                have h8 := HEX.out
                unfold pad at h8
                injection h8 with h8
                injection h8 with h8
                have e1 : X.getD 0 0 = x0 := by injection h8 with h8; injection h8
                have e2 : X.getD 1 0 = x1 := by injection h8 with _ h8; injection h8 with h8; injection h8
                have e3 : X.getD 2 0 = x2 := by injection h8 with _ h8; injection h8 with _ h8; injection h8 with h8; injection h8
                rw [← e1, ← e2, ← e3]
                exact t3_self hPl hk3
              rw [e9] at h9
              have := clone_c (some ⟨T, 0, none⟩) 3 X w7 (by rw [hPl]; exact h9) (by omega) (by omega)
              rwa [hPl] at this)
            have HQ := Lib.hid (And.intro hTq (And.intro hgo1 hgo2))
            have hmN : m < i := by omega
            clear hN7 hS7 hcl1 hM1 hcc1 hfr1 hoki1 hH1 hwr hmt hml' hm1
            go_upto_region 14 with (first | (go_at_call 70; (with_reducible refine HCLN.out.mono ?_); rintro e w8 ⟨vc, rfl, hRc, hb8⟩; obtain ⟨Av, cv, ev⟩ := Kd.R_slice hRc; subst ev) | (refine Kd.H_store (Kd.slice 3 (Kd.int .i64)) (w0 := w8) (o' := m) Bo ?sd ?sg 22 (.tmp 63) (.tmp 62) ?sh 22 (m : Int) 0 (List.replicate (m + 1) [] ++ tl) X (.slice Av X.length cv) [.slice Av X.length cv] [c0] (fun _ => True) _ (fun k => w7.heap.size ≤ k) ?sa ?so ?sx ?su ?st ?s1 (Kd.H_below HH2.out hb8) hm0 hmi ?sj ?sM ?sk (Below.refl _ _) ?_; (case sh => rfl)))
            case sd => rfl
            case sg => rfl
            case sa => rfl
            case sx => rfl
            case su => rfl
            case so => simp [Kd.slice]
            case st => rfl
            case s1 => intro q hq; simp at hq; subst hq; rfl
            case sj => simp [Kd.slice]
            case sM => exact ⟨_, rfl, Kd.R_lower (Kd.R_mono (Kd.R_bound hRc) (fun b hb => hb.2.1)) (by have := HS7.out.size; have := HB.out.size; have := HBE.out; omega)⟩
            case sk => exact fun k hk => .inr ⟨trivial, hk⟩
            intro w9 hS9 hB9 hG9
            obtain ⟨hTq, hgo1, hgo2⟩ := HQ.out
            have hzB : Bo ≤ wq.heap.size := by have := HB.out.size; have := HBE.out; omega
            have hz7 := HS7.out.size
            have hz8 := hb8.size
            have hH7 := (HX.out w7 HS7.out).1
            have hH9 := (hH7.of (hb8.block B (by omega))).of (hG9.block B (by omega) (fun e => by injection e with e; omega))
            have hT9 := (HN7.out.of (hb8.block T HN7.out.lt)).of (hG9.block T (by have := HN7.out.lt; omega) (fun e => by injection e with e; omega))
            have HB9 : Hid (Below Bo wr w9) := Lib.hid ((HB.out.trans ((HS7.out.trans (hb8.mono hz7)).mono hzB)).grown hG9 (by omega) (fun j e => by injection e with e; omega))
            have HS9 : Hid (Kd.S (Kd.slice 3 (Kd.int .i64)) 22 w9 Bo (fun _ => True) (.slice (some ⟨go', 0, none⟩) i capo) (List.replicate m [] ++ bkF k (works k (dist s) (c.take m)) (c.drop m))) := Lib.hid (by
              rw [HTL.out, ← bk_set]; exact hS9)
            have HF9 : Hid (∀ x W, Pos k x → Below w9.heap.size w9 W → Calls Try.prog 71 (#[pad x] ++ #[.pointer (some ⟨B, 0, none⟩), .pointer (some ⟨T, 0, none⟩)]) W fun e W' => e = .returned (.int .i64 (hdD (bkF k (works k (dist s) (c.take m)) (c.drop m)) x)) ∧ Below W.heap.size W W') := Lib.hid (fun x W hx hW => by
              rw [HTL.out]
              exact from_c hk1 hk3 s0 s1 s2 (some ad) i cc B T HXP.out hx W (hH9.of (hW.block B hH9.lt)) HEX.out (hT9.of (hW.block T hT9.lt)))
            have HE9 : Hid (Enters 71) := Lib.hid (enters_mk Try.func71 (by kernel_rfl) rfl)
            clear hS9 hB9 hG9 hH7 hH9 hT9 hb8 hRc
            go_wp2_with fail
            exact ⟨⟨m, 71, #[.pointer (some ⟨B, 0, none⟩), .pointer (some ⟨T, 0, none⟩)], rfl, rfl, by omega, HE9, HF9, HS9, HB9⟩, by simp [intOf]⟩
          case A2 =>
            have hTq : wq.heap.size ≤ wq.heap.size := Nat.le_refl _
            have hsp5 : SpotsAt wq.heap.size 0 0 0 (wq.alloc (Obj.cells #[Value.int IntKind.i64 0, Value.int IntKind.i64 0, Value.int IntKind.i64 0] 52)).drew := (SpotsAt.new wq 0 0 0).of rfl
            have hS5 : Below wq.heap.size wq (wq.alloc (Obj.cells #[Value.int IntKind.i64 0, Value.int IntKind.i64 0, Value.int IntKind.i64 0] 52)).drew := ((Below.refl _ wq).alloc (Nat.le_refl _) _).drew
            obtain ⟨T, hT⟩ : ∃ T, wq.heap.size = T := ⟨_, rfl⟩
            have hTq : wq.heap.size ≤ T := Nat.le_of_eq hT
            refine R.wpTree2_go rfl rfl true rfl (fun K hK => ?_)
            go_simp
            refine hK _ _ (fun _ => hS5) ?_
            clear hK K
            refine R.wpTree2_go rfl rfl true rfl (fun K hK => ?_)
            go_simp
            generalize (wq.alloc (Obj.cells #[Value.int IntKind.i64 0, Value.int IntKind.i64 0, Value.int IntKind.i64 0] 52)).drew = w5 at *
            refine (HCH.out w5 hS5).mono ?_
            rintro e w6 ⟨rfl, hb6⟩
            have hS6 : Below wq.heap.size wq w6 := hS5.trans (hb6.mono hS5.size)
            refine hK _ _ (fun _ => hS6) ?_
            clear hK K
            have hsp := hsp5.of (hb6.block _ hsp5.lt)
            clear hb6 hsp5 hS5
            rw [hT] at hsp
            simp only [hT]
            have HT := Lib.hid hT
            clear hT
            have HSP := Lib.hid hsp
            obtain ⟨q0, q1, q2, q3, q4, q5, _⟩ := hsp
            refine R.wpTree2_go rfl rfl true rfl (fun K hK => ?_)
            go_simp
            have hg7 := grown_put (B := T) (W := w6) (.int .i64 x0) (.int .i64 x1) (.int .i64 x2)
            have hN7 := HSP.out.put x0 x1 x2
            have hS7 : Below wq.heap.size wq (((w6.setCell ⟨T, 0, none⟩ (.int .i64 x0)).setCell ⟨T, 1, none⟩ (.int .i64 x1)).setCell ⟨T, 2, none⟩ (.int .i64 x2)) := hS6.grown hg7 hS6.size (fun j e => by injection e with e; omega)
            refine hK _ _ (fun _ => by first | exact hS7 | (have h9 := hS7; rw [HT.out] at h9; exact h9)) ?_
            clear hK K q0 q1 q2 q3 q4 q5
            generalize (((w6.setCell ⟨T, 0, none⟩ (.int .i64 x0)).setCell ⟨T, 1, none⟩ (.int .i64 x1)).setCell ⟨T, 2, none⟩ (.int .i64 x2)) = w7 at *
            clear hg7 hS6 HSP
            refine R.wpTree2_nil ?_
            try go_frame
            have HN7 := Lib.hid hN7
            have HS7 := Lib.hid hS7
            have h70 := (HX.out w7 HS7.out).1.h0
            have hk3' : (k : Int) ≤ 3 := by omega
            have hk0' : (0 : Int) ≤ (k : Int) := by omega
            obtain ⟨go', capo, ev, hgo1, hgo2, _⟩ := Kd.S_form HS.out (by rw [HLO.out]; omega)
            rw [HLO.out] at ev
            subst ev
            obtain ⟨oki, c1, hcl1, hM1, hcc1, hfr1, hoki1, hH1⟩ := Kd.S_elem (Kd.S_below HS.out HS7.out) [] (m : Int) hm0 hmi
            have HH2 := Lib.hid (Kd.H_widen hH1)
            obtain ⟨c0, hc0⟩ : ∃ c0, c1 = [c0] := List.length_eq_one_iff.1 hcl1
            subst hc0
            have HCLN : Hid (Calls Try.prog 70 #[.slice (some ⟨T, 0, none⟩) k 3] w7 fun e w' => ∃ v, e = .returned v ∧ Kd.R (Kd.int .i64) 3 w' w7.heap.size (fun _ => True) v X ∧ Below w7.heap.size w7 w') := Lib.hid (by
              have h9 := t3_C (k := k) hk3 HN7.out.h0 HN7.out.h1 HN7.out.h2
              have hPl := HXP.out.len
              have e9 : T3 k x0 x1 x2 = X := by
                have h8 := HEX.out
                unfold pad at h8
                injection h8 with h8
                injection h8 with h8
                have e1 : X.getD 0 0 = x0 := by injection h8 with h8; injection h8
                have e2 : X.getD 1 0 = x1 := by injection h8 with _ h8; injection h8 with h8; injection h8
                have e3 : X.getD 2 0 = x2 := by injection h8 with _ h8; injection h8 with _ h8; injection h8 with h8; injection h8
                rw [← e1, ← e2, ← e3]
                exact t3_self hPl hk3
              rw [e9] at h9
              have := clone_c (some ⟨T, 0, none⟩) 3 X w7 (by rw [hPl]; exact h9) (by omega) (by omega)
              rwa [hPl] at this)
            have HQ := Lib.hid (And.intro hTq (And.intro hgo1 hgo2))
            have hmN : m < i := by omega
            clear hN7 hS7 hcl1 hM1 hcc1 hfr1 hoki1 hH1 hwr hmt hml' hm1
            go_upto_region 14 with (first | (go_at_call 70; (with_reducible refine HCLN.out.mono ?_); rintro e w8 ⟨vc, rfl, hRc, hb8⟩; obtain ⟨Av, cv, ev⟩ := Kd.R_slice hRc; subst ev) | (refine Kd.H_store (Kd.slice 3 (Kd.int .i64)) (w0 := w8) (o' := m) Bo ?sd ?sg 22 (.tmp 63) (.tmp 62) ?sh 22 (m : Int) 0 (List.replicate (m + 1) [] ++ tl) X (.slice Av X.length cv) [.slice Av X.length cv] [c0] (fun _ => True) _ (fun k => w7.heap.size ≤ k) ?sa ?so ?sx ?su ?st ?s1 (Kd.H_below HH2.out hb8) hm0 hmi ?sj ?sM ?sk (Below.refl _ _) ?_; (case sh => rfl)))
            case sd => rfl
            case sg => rfl
            case sa => rfl
            case sx => rfl
            case su => rfl
            case so => simp [Kd.slice]
            case st => rfl
            case s1 => intro q hq; simp at hq; subst hq; rfl
            case sj => simp [Kd.slice]
            case sM => exact ⟨_, rfl, Kd.R_lower (Kd.R_mono (Kd.R_bound hRc) (fun b hb => hb.2.1)) (by have := HS7.out.size; have := HB.out.size; have := HBE.out; omega)⟩
            case sk => exact fun k hk => .inr ⟨trivial, hk⟩
            intro w9 hS9 hB9 hG9
            obtain ⟨hTq, hgo1, hgo2⟩ := HQ.out
            have hzB : Bo ≤ wq.heap.size := by have := HB.out.size; have := HBE.out; omega
            have hz7 := HS7.out.size
            have hz8 := hb8.size
            have hH7 := (HX.out w7 HS7.out).1
            have hH9 := (hH7.of (hb8.block B (by omega))).of (hG9.block B (by omega) (fun e => by injection e with e; omega))
            have hT9 := (HN7.out.of (hb8.block T HN7.out.lt)).of (hG9.block T (by have := HN7.out.lt; omega) (fun e => by injection e with e; omega))
            have HB9 : Hid (Below Bo wr w9) := Lib.hid ((HB.out.trans ((HS7.out.trans (hb8.mono hz7)).mono hzB)).grown hG9 (by omega) (fun j e => by injection e with e; omega))
            have HS9 : Hid (Kd.S (Kd.slice 3 (Kd.int .i64)) 22 w9 Bo (fun _ => True) (.slice (some ⟨go', 0, none⟩) i capo) (List.replicate m [] ++ bkF k (works k (dist s) (c.take m)) (c.drop m))) := Lib.hid (by
              rw [HTL.out, ← bk_set]; exact hS9)
            have HF9 : Hid (∀ x W, Pos k x → Below w9.heap.size w9 W → Calls Try.prog 71 (#[pad x] ++ #[.pointer (some ⟨B, 0, none⟩), .pointer (some ⟨T, 0, none⟩)]) W fun e W' => e = .returned (.int .i64 (hdD (bkF k (works k (dist s) (c.take m)) (c.drop m)) x)) ∧ Below W.heap.size W W') := Lib.hid (fun x W hx hW => by
              rw [HTL.out]
              exact from_c hk1 hk3 s0 s1 s2 (some ad) i cc B T HXP.out hx W (hH9.of (hW.block B hH9.lt)) HEX.out (hT9.of (hW.block T hT9.lt)))
            have HE9 : Hid (Enters 71) := Lib.hid (enters_mk Try.func71 (by kernel_rfl) rfl)
            clear hS9 hB9 hG9 hH7 hH9 hT9 hb8 hRc
            go_wp2_with fail
            exact ⟨⟨m, 71, #[.pointer (some ⟨B, 0, none⟩), .pointer (some ⟨T, 0, none⟩)], rfl, rfl, by omega, HE9, HF9, HS9, HB9⟩, by simp [intOf]⟩
end Go.Proofs.Ytakbijpcfnipoaa.A
