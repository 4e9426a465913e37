/- What the statements of this seat lean on: the functions that they reach, walked. -/
import Derived.Test.YtcpojohpmcnnhaaZj1
set_option linter.unusedSimpArgs false
set_option linter.unusedVariables false

set_option linter.unusedVariables false
set_option linter.unusedSimpArgs false
namespace Go.Proofs.Ytcpojohpmcnnhaa.A
open Go.RowKit Go.Proofs.YtcpojohpmcnnhaaW.PrintWords Go.Proofs.YtcpojohpmcnnhaaW.PrintLast Go.Proofs.YtcpojohpmcnnhaaW.PrintMore
open Go.Proofs.Ytcpojohpmcnnhaa.PA
def RowS (enc : Nat → Value) (T : TypeId) (tail : List Value) (blk : Nat) (L : List Nat) (w : World) : Prop := w.heap[blk]? = some (.cells ((L.map enc ++ tail).toArray) T (0, 0))
theorem RowS.frozen {enc : Nat → Value} {T : TypeId} {tail : List Value} {blk : Nat} {L : List Nat} {w : World} (h : RowS enc T tail blk L w) (k : Nat) : w.frozen? ⟨blk, k, none⟩ = false := Lib.frozen_of_heap h k
theorem RowS.cell {enc : Nat → Value} {T : TypeId} {tail : List Value} {blk : Nat} {L : List Nat} {w : World} (h : RowS enc T tail blk L w) {A B : List Nat} {x : Nat} (e : L = A ++ x :: B) {k : Nat} (hk : k = A.length) : w.cell? ⟨blk, k, none⟩ = some (enc x) := by
  subst e hk
  unfold RowS at h
  simp [World.cell?, h]
theorem RowS.size {enc : Nat → Value} {T : TypeId} {tail : List Value} {blk : Nat} {L : List Nat} {w : World} (h : RowS enc T tail blk L w) : blk < w.heap.size := by
  rcases Nat.lt_or_ge blk w.heap.size with h1 | h1
  · exact h1
  · unfold RowS at h; rw [Array.getElem?_eq_none (by omega)] at h; cases h
theorem RowS.keep {enc : Nat → Value} {T : TypeId} {tail : List Value} {blk : Nat} {L : List Nat} {w w' : World} (h : RowS enc T tail blk L w) (hk : R.Keeps [] w w') : RowS enc T tail blk L w' := (hk.block blk h.size (by simp)).trans h
theorem RowS.put {enc : Nat → Value} {T : TypeId} {tail : List Value} {blk : Nat} {L : List Nat} {w : World} (h : RowS enc T tail blk L w) {k : Nat} (hk : k < L.length) (x : Nat) : RowS enc T tail blk (L.set k x) (w.setCell ⟨blk, k, none⟩ (enc x)) := by
  have e : (w.setCell ⟨blk, k, none⟩ (enc x)).heap[blk]? = some (.cells (((L.map enc ++ tail).toArray).setIfInBounds k (enc x)) T (0, 0)) := by
    unfold RowS at h
    simp [World.setCell, Array.getElem?_modify, h]
  unfold RowS
  rw [e]
  congr 2
  apply Array.ext'
  simp [List.set_append, hk, List.map_set]
theorem RowS.swap {enc : Nat → Value} {T : TypeId} {tail : List Value} {blk : Nat} {L : List Nat} {w : World} (h : RowS enc T tail blk L w) {A M B : List Nat} {x y : Nat} (e : L = A ++ x :: (M ++ y :: B)) {i j : Nat} (hi : i = A.length) (hj : j = A.length + 1 + M.length) :
    RowS enc T tail blk (A ++ y :: (M ++ x :: B)) ((w.setCell ⟨blk, i, none⟩ (enc y)).setCell ⟨blk, j, none⟩ (enc x)) := by
  subst e hi hj
  have h1 := h.put (k := A.length) (by simp) y
  have h2 := h1.put (k := A.length + 1 + M.length) (by simp; omega) x
  rw [swap_far] at h2
  exact h2
set_option maxHeartbeats 4000000 in
set_option maxRecDepth 100000 in
theorem swapRange_c (enc : Nat → Value) (henc : ∀ x, ∃ v, enc x = .int .i64 v) (tail : List Value) (blk cap : Nat) (f : Value) (P U M V S : List Nat) (w : World) (h : RowS enc 3 tail blk (P ++ (U ++ (M ++ (V ++ S)))) w) (hl : U.length = V.length) (hn : (P ++ (U ++ (M ++ (V ++ S)))).length < 1000000) :
    Calls Try.prog 106 #[.slice (some ⟨blk, 0, none⟩) (P ++ (U ++ (M ++ (V ++ S)))).length cap, .int .i64 (P.length : Int), .int .i64 ((P.length + U.length + M.length : Nat) : Int), .int .i64 (U.length : Int), f] w fun e w' => e = .returned (.tuple #[]) ∧ R.Keeps [blk] w w' ∧ RowS enc 3 tail blk (P ++ (V ++ (M ++ (U ++ S)))) w' := by
  obtain ⟨N, hN⟩ : ∃ N, (P ++ (U ++ (M ++ (V ++ S)))).length = N := ⟨_, rfl⟩
  have hNs : P.length + U.length + M.length + V.length + S.length = N := by rw [← hN]; simp; omega
  rw [hN] at hn ⊢
  have HR0 := Lib.hid h
  have HL := Lib.hid hl
  clear h hN
  obtain ⟨p, hp⟩ : ∃ p, P.length = p := ⟨_, rfl⟩
  obtain ⟨n, hnn⟩ : ∃ n, U.length = n := ⟨_, rfl⟩
  obtain ⟨m, hm⟩ : ∃ m, M.length = m := ⟨_, rfl⟩
  rw [hp, hnn, hm] at hNs
  rw [← hl, hnn] at hNs
  rw [hp, hnn, hm]
  have HP := Lib.hid (And.intro hp (And.intro hnn hm))
  clear hp hnn hm hl
  go_enter Try.func106, Try.ntmps106
  go_wp2_with fail
  go_loopw [10] (fun v10 wr => ∃ (i : Nat) (U1 U2 V1 V2 : List Nat), v10 = .int .i64 (i : Int) ∧ i ≤ n ∧ Hid (U = U1 ++ U2 ∧ V = V1 ++ V2 ∧ U1.length = i ∧ V1.length = i) ∧ Hid (RowS enc 3 tail blk (P ++ (V1 ++ (U2 ++ (M ++ (U1 ++ (V2 ++ S)))))) wr) ∧ Hid (R.Keeps [blk] w wr)) (fun v10 _ => n - (intOf v10).toNat)
  case atStart => exact ⟨0, [], U, [], V, rfl, Nat.zero_le _, Lib.hid ⟨rfl, rfl, rfl, rfl⟩, HR0, Lib.hid (R.Keeps.refl _ _)⟩
  case round =>
    rename World => wr
    obtain ⟨i, U1, U2, V1, V2, rfl, hi, HD, HR, HK⟩ := hrel
    by_cases hlt : i < n
    · have hlt' : (i : Int) < (n : Int) := by omega
      obtain ⟨u, U3, rfl⟩ : ∃ u U3, U2 = u :: U3 := by
        cases U2 with
        | nil => exfalso; have := HD.out; have h2 := HP.out.2.1; rw [this.1] at h2; simp at h2; omega
        | cons u U3 => exact ⟨u, U3, rfl⟩
      obtain ⟨v, V3, rfl⟩ : ∃ v V3, V2 = v :: V3 := by
        cases V2 with
        | nil => exfalso; have := HD.out; have h2 := HP.out.2.1; have h3 := HL.out; rw [this.2.1] at h3; simp at h3; omega
        | cons v V3 => exact ⟨v, V3, rfl⟩
      obtain ⟨y1, hy1⟩ : ∃ y1, p + i = y1 := ⟨_, rfl⟩
      obtain ⟨y2, hy2⟩ : ∃ y2, p + n + m + i = y2 := ⟨_, rfl⟩
      have hdist : P ++ (V1 ++ (u :: U3 ++ (M ++ (U1 ++ (v :: V3 ++ S))))) = (P ++ V1) ++ u :: ((U3 ++ (M ++ U1)) ++ v :: (V3 ++ S)) := by simp
      have hdist' : P ++ ((V1 ++ [v]) ++ (U3 ++ (M ++ ((U1 ++ [u]) ++ (V3 ++ S))))) = (P ++ V1) ++ v :: ((U3 ++ (M ++ U1)) ++ u :: (V3 ++ S)) := by simp
      have ha : (P ++ V1).length = y1 := by simp [HD.out.2.2.2, HP.out.1, ← hy1]
      have hb : y2 = (P ++ V1).length + 1 + (U3 ++ (M ++ U1)).length := by
        have h1 := HD.out.1
        have h2 := HP.out.2.1
        rw [h1] at h2
        simp at h2
        simp [HD.out.2.2, HP.out, ← hy2]
        have := HD.out.2.2.1
        omega
      have HY := Lib.hid (And.intro ha hb)
      have HDIST := Lib.hid (And.intro hdist hdist')
      have c1 : wr.cell? ⟨blk, y1, none⟩ = some (enc u) := HR.out.cell hdist ha.symm
      have c2 : wr.cell? ⟨blk, y2, none⟩ = some (enc v) := HR.out.cell (A := (P ++ V1) ++ u :: (U3 ++ (M ++ U1))) (x := v) (B := V3 ++ S) (by simp) (by rw [hb]; simp; omega)
      have f1 := HR.out.frozen y1
      have f2 := HR.out.frozen y2
      obtain ⟨eu, heu⟩ := henc u
      obtain ⟨ev, hev⟩ := henc v
      rw [heu] at c1
      rw [hev] at c2
      have HEN := Lib.hid (And.intro heu hev)
      clear heu hev ha hb hdist hdist'
      have g1 : (p : Int) + (i : Int) = (y1 : Int) := by omega
      have g2 : ((p + n + m : Nat) : Int) + (i : Int) = (y2 : Int) := by omega
      have b1 : (y1 : Int) < (N : Int) := by omega
      have b2 : (y2 : Int) < (N : Int) := by omega
      have b3 : IntKind.i64.wrap (y1 : Int) = (y1 : Int) := IntWalk.i64_in _ (by omega)
      have b4 : IntKind.i64.wrap (y2 : Int) = (y2 : Int) := IntWalk.i64_in _ (by omega)
      have mixed : Try.prog.follows Departure.mixedOrders = true := by kernel_rfl
      go_wp2_with fail
      go_big_region_o
      all_goals go_wp2_with fail
      all_goals
        refine ⟨⟨i + 1, U1 ++ [u], U3, V1 ++ [v], V3, by go_num, by omega, Lib.hid ⟨by rw [HD.out.1]; simp, by rw [HD.out.2.1]; simp, by simp [HD.out.2.2.1], by simp [HD.out.2.2.2]⟩, ?_, Lib.hid ((((HK.out).setCell (by simp) _).setCell (by simp) _).drew)⟩, by simp [intOf]; omega⟩
        have h5 := HR.out.swap HDIST.out.1 HY.out.1.symm HY.out.2
        rw [HEN.out.1, HEN.out.2, ← HDIST.out.2] at h5
        exact Lib.hid h5
    · obtain rfl : i = n := by omega
      go_wp2_with fail
      go_end0
      obtain ⟨h1, h2, h3, h4⟩ := HD.out
      have e1 : U2 = [] := by
        have := HP.out.2.1
        rw [h1] at this
        simp at this
        exact List.eq_nil_of_length_eq_zero (by omega)
      have e2 : V2 = [] := by
        have := HP.out.2.1
        have hh := HL.out
        rw [h2] at hh
        simp at hh
        exact List.eq_nil_of_length_eq_zero (by omega)
      subst e1 e2
      simp only [List.append_nil] at h1 h2
      subst h1 h2
      exact ⟨rfl, HK.out, by simpa using HR.out⟩
end Go.Proofs.Ytcpojohpmcnnhaa.A

set_option linter.unusedVariables false
set_option linter.unusedSimpArgs false
namespace Go.Proofs.Ytcpojohpmcnnhaa.A
open Go.RowKit Go.Proofs.YtcpojohpmcnnhaaW.PrintWords Go.Proofs.YtcpojohpmcnnhaaW.PrintLast Go.Proofs.YtcpojohpmcnnhaaW.PrintMore
open Go.Proofs.Ytcpojohpmcnnhaa.PA
theorem swapRange_at (enc : Nat → Value) (henc : ∀ x, ∃ v, enc x = .int .i64 v) (tail : List Value) (blk cap : Nat) (f : Value) (P U M V S L : List Nat) (N : Nat) (i j n : Int) (w : World) (hL : L = P ++ (U ++ (M ++ (V ++ S)))) (h : RowS enc 3 tail blk L w) (hN : L.length = N) (hl : U.length = V.length) (hn : N < 1000000)
    (hi : i = (P.length : Int)) (hj : j = ((P.length + U.length + M.length : Nat) : Int)) (hk : n = (U.length : Int)) :
    Calls Try.prog 106 #[.slice (some ⟨blk, 0, none⟩) N cap, .int .i64 i, .int .i64 j, .int .i64 n, f] w fun e w' => e = .returned (.tuple #[]) ∧ R.Keeps [blk] w w' ∧ RowS enc 3 tail blk (P ++ (V ++ (M ++ (U ++ S)))) w' := by
  subst hL hi hj hk hN
  exact swapRange_c enc henc tail blk cap f P U M V S w h hl hn
set_option maxHeartbeats 4000000 in
set_option maxRecDepth 100000 in
theorem rotate_c (enc : Nat → Value) (henc : ∀ x, ∃ v, enc x = .int .i64 v) (tail : List Value) (blk cap : Nat) (f : Value) (P U V S : List Nat) (N : Nat) (a m b : Int) (w : World) (h : RowS enc 3 tail blk (P ++ (U ++ (V ++ S))) w) (hN : (P ++ (U ++ (V ++ S))).length = N) (hn : N < 1000000)
    (ha : a = (P.length : Int)) (hm : m = ((P.length + U.length : Nat) : Int)) (hb : b = ((P.length + U.length + V.length : Nat) : Int)) (hU : 0 < U.length) (hV : 0 < V.length) :
    Calls Try.prog 104 #[.slice (some ⟨blk, 0, none⟩) N cap, .int .i64 a, .int .i64 m, .int .i64 b, f] w fun e w' => e = .returned (.tuple #[]) ∧ R.Keeps [blk] w w' ∧ RowS enc 3 tail blk (P ++ (V ++ (U ++ S))) w' := by
  have hNs : P.length + U.length + V.length + S.length = N := by rw [← hN]; simp; omega
  have HR0 := Lib.hid h
  obtain ⟨T, hT⟩ : ∃ T, P ++ (V ++ (U ++ S)) = T := ⟨_, rfl⟩
  have HT := Lib.hid hT
  rw [hT]
  clear h hT
  have e1 : m - a = (U.length : Int) := by omega
  have e2 : b - m = (V.length : Int) := by omega
  obtain ⟨mm, hmm⟩ : ∃ mm : Nat, P.length + U.length = mm := ⟨_, rfl⟩
  rw [hmm] at hm
  have HMM := Lib.hid hmm
  have HNN := Lib.hid hN
  have w1 : IntKind.i64.wrap (U.length : Int) = (U.length : Int) := IntWalk.i64_in _ (by omega)
  have w2 : IntKind.i64.wrap (V.length : Int) = (V.length : Int) := IntWalk.i64_in _ (by omega)
  have hmN : mm < 1000000 := by omega
  subst hm
  clear hb ha hN
  go_enter Try.func104, Try.ntmps104
  go_wp2_with fail
  try rw [e1]
  try rw [e2]
  clear e1 e2 w1 w2
  go_loopw [10, 11] (fun v10 v11 wr => ∃ (i j : Nat) (P' U' V' S' : List Nat), v10 = .int .i64 (i : Int) ∧ v11 = .int .i64 (j : Int) ∧ 0 < i ∧ 0 < j ∧ i ≤ mm ∧ mm + j ≤ N ∧ Hid (P' ++ (V' ++ (U' ++ S')) = T ∧ U'.length = i ∧ V'.length = j ∧ P'.length + i = mm ∧ (P' ++ (U' ++ (V' ++ S'))).length = N) ∧ Hid (RowS enc 3 tail blk (P' ++ (U' ++ (V' ++ S'))) wr) ∧ Hid (R.Keeps [blk] w wr)) (fun v10 v11 _ => (intOf v10).toNat + (intOf v11).toNat)
  case atStart => exact ⟨U.length, V.length, P, U, V, S, rfl, rfl, hU, hV, by omega, by omega, Lib.hid ⟨HT.out, rfl, rfl, HMM.out, HNN.out⟩, HR0, Lib.hid (R.Keeps.refl _ _)⟩
  case round =>
    rename World => wr
    obtain ⟨i, j, P', U', V', S', rfl, rfl, hi0, hj0, him, hjN, HD, HR, HK⟩ := hrel
    by_cases hij : i = j
    · subst hij
      have e3 : (mm : Int) - (i : Int) = (P'.length : Int) := by have := HD.out.2.2.2.1; omega
      obtain ⟨q, hq⟩ : ∃ q, P'.length = q := ⟨_, rfl⟩
      rw [hq] at e3
      have hqN : q < 1000000 := by omega
      have HQ := Lib.hid hq
      clear hq
      have w3 : IntKind.i64.wrap (q : Int) = (q : Int) := IntWalk.i64_in _ (by omega)
      go_wp2_with fail
      refine (swapRange_at enc henc tail blk cap f P' U' [] V' S' _ N _ _ _ wr rfl HR.out HD.out.2.2.2.2 (by have := HD.out; omega) hn (by have := HQ.out; omega) (by have := HD.out; simp; omega) (by have := HD.out; omega)).mono ?_
      rintro e w4 ⟨rfl, hk4, hr4⟩
      go_wp2_with fail
      go_end0
      refine ⟨rfl, HK.out.trans hk4 (fun k hk _ => hk), ?_⟩
      rw [← HD.out.1]
      simpa using hr4
    · have hne : (i : Int) ≠ (j : Int) := by omega
      by_cases hgt : j < i
      · have hgt' : (j : Int) < (i : Int) := by omega
        obtain ⟨q, hq⟩ : ∃ q : Nat, (mm : Int) - (i : Int) = (q : Int) := ⟨mm - i, by omega⟩
        obtain ⟨d, hd⟩ : ∃ d : Nat, (i : Int) - (j : Int) = (d : Int) := ⟨i - j, by omega⟩
        have w3 : IntKind.i64.wrap (q : Int) = (q : Int) := IntWalk.i64_in _ (by omega)
        have w4 : IntKind.i64.wrap (d : Int) = (d : Int) := IntWalk.i64_in _ (by omega)
        obtain ⟨A, B, hU', hA⟩ : ∃ A B, U' = A ++ B ∧ A.length = j := ⟨U'.take j, U'.drop j, (List.take_append_drop _ _).symm, by have := HD.out; simp; omega⟩
        subst hU'
        have hB : B.length = i - j := by have := HD.out.2.1; simp at this; omega
        have HL := Lib.hid (And.intro hA hB)
        clear hA hB
        go_wp2_with fail
        refine (swapRange_at enc henc tail blk cap f P' A B V' S' _ N _ _ _ wr (by simp) HR.out HD.out.2.2.2.2 (by have := HD.out; have := HL.out; omega) hn (by have := HD.out; omega) (by have := HD.out; have := HL.out; omega) (by have := HL.out; omega)).mono ?_
        rintro e w5 ⟨rfl, hk5, hr5⟩
        have HK5 := Lib.hid (HK.out.trans hk5 (fun k hk _ => hk))
        have HR5 := Lib.hid hr5
        clear hk5 hr5
        go_wp2_with fail
        refine ⟨⟨d, j, P' ++ V', B, A, S', rfl, rfl, by omega, hj0, by omega, by omega, Lib.hid ⟨by rw [← HD.out.1]; simp, by have := HL.out.2; omega, HL.out.1, by have := HD.out; simp; omega, by have := HD.out; have := HL.out; simp at this ⊢; simp at *; omega⟩, ?_, HK5⟩, by simp [intOf]; omega⟩
        have := HR5.out
        exact Lib.hid (by simpa using this)
      · have hgt' : ¬ (j : Int) < (i : Int) := by omega
        obtain ⟨q, hq⟩ : ∃ q : Nat, (mm : Int) - (i : Int) = (q : Int) := ⟨mm - i, by omega⟩
        obtain ⟨r, hr⟩ : ∃ r : Nat, (mm : Int) + (j : Int) = (r : Int) := ⟨mm + j, by omega⟩
        obtain ⟨t, ht⟩ : ∃ t : Nat, (r : Int) - (i : Int) = (t : Int) := ⟨r - i, by omega⟩
        obtain ⟨d, hd⟩ : ∃ d : Nat, (j : Int) - (i : Int) = (d : Int) := ⟨j - i, by omega⟩
        have w3 : IntKind.i64.wrap (q : Int) = (q : Int) := IntWalk.i64_in _ (by omega)
        have w4 : IntKind.i64.wrap (r : Int) = (r : Int) := IntWalk.i64_in _ (by omega)
        have w5 : IntKind.i64.wrap (t : Int) = (t : Int) := IntWalk.i64_in _ (by omega)
        have w6 : IntKind.i64.wrap (d : Int) = (d : Int) := IntWalk.i64_in _ (by omega)
        obtain ⟨A, B, hV', hB⟩ : ∃ A B, V' = A ++ B ∧ B.length = i := ⟨V'.take (j - i), V'.drop (j - i), (List.take_append_drop _ _).symm, by have := HD.out; simp; omega⟩
        subst hV'
        have hA : A.length = j - i := by have := HD.out.2.2.1; simp at this; omega
        have HL := Lib.hid (And.intro hA hB)
        clear hA hB
        go_wp2_with fail
        refine (swapRange_at enc henc tail blk cap f P' U' A B S' _ N _ _ _ wr (by simp) HR.out HD.out.2.2.2.2 (by have := HD.out; have := HL.out; omega) hn (by have := HD.out; omega) (by have := HD.out; have := HL.out; omega) (by have := HD.out; omega)).mono ?_
        rintro e w5 ⟨rfl, hk5, hr5⟩
        have HK5 := Lib.hid (HK.out.trans hk5 (fun k hk _ => hk))
        have HR5 := Lib.hid hr5
        clear hk5 hr5
        go_wp2_with fail
        refine ⟨⟨i, d, P', B, A, U' ++ S', rfl, rfl, hi0, by omega, him, by omega, Lib.hid ⟨by rw [← HD.out.1]; simp, HL.out.2, by have := HL.out.1; omega, by have := HD.out; omega, by have := HD.out; have := HL.out; simp at *; omega⟩, ?_, HK5⟩, by simp [intOf]; omega⟩
        have := HR5.out
        exact Lib.hid (by simpa using this)
end Go.Proofs.Ytcpojohpmcnnhaa.A

set_option linter.unusedVariables false
set_option linter.unusedSimpArgs false
namespace Go.Proofs.Ytcpojohpmcnnhaa.A
open Go.RowKit Go.Proofs.YtcpojohpmcnnhaaW.PrintWords Go.Proofs.YtcpojohpmcnnhaaW.PrintLast Go.Proofs.YtcpojohpmcnnhaaW.PrintMore
open Go.Proofs.Ytcpojohpmcnnhaa.PA
def CmpS (key : Nat → Int) (enc : Nat → Value) (n blk g : Nat) (cb : Array Value) (w0 : World) : Prop := ∀ W, R.Keeps [blk] w0 W → ∀ x y, x < n → y < n → Calls Try.prog g (#[enc x, enc y] ++ cb) W fun e w' => ∃ c, e = .returned (.int .i64 c) ∧ (c < 0 ↔ key x < key y) ∧ Below W.heap.size W w'
theorem wr_small {x : Nat} (h : x < 10000000) : IntKind.i64.wrap (x : Int) = (x : Int) := IntWalk.i64_in _ (by omega)
theorem setCell_comm (w : World) {b i j : Nat} {u v : Value} (h : i ≠ j) : (w.setCell ⟨b, i, none⟩ u).setCell ⟨b, j, none⟩ v = (w.setCell ⟨b, j, none⟩ v).setCell ⟨b, i, none⟩ u := by
  unfold World.setCell
  congr 1
  apply Array.ext_getElem?
  intro k
  simp only [Array.getElem?_modify]
  by_cases hk : b = k
  · simp only [hk, if_true]
    cases w.heap[k]? with
    | none => rfl
    | some o =>
      cases o <;> simp
      exact Array.setIfInBounds_comm _ _ h
  · simp only [hk, if_false]
def Merged (key : Nat → Int) (enc : Nat → Value) (tail : List Value) (blk : Nat) (P X Y S : List Nat) (w : World) (e : Ending) (w' : World) : Prop :=
  e = .returned (.tuple #[]) ∧ ∃ Z : List Nat, Z.Perm (X ++ Y) ∧ Srt key Z ∧ R.Keeps [blk] w w' ∧ RowS enc 3 tail blk (P ++ (Z ++ S)) w'
set_option maxHeartbeats 4000000 in
set_option maxRecDepth 100000 in
theorem merge1_c {key : Nat → Int} {enc : Nat → Value} (henc : ∀ x, ∃ v, enc x = .int .i64 v) {tail : List Value} {blk cap n g : Nat} {cb : Array Value} {w0 : World} (eg : Enters g) (hC : CmpS key enc n blk g cb w0)
    (P : List Nat) (x : Nat) (Y S : List Nat) (N : Nat) (w : World) (hK0 : R.Keeps [blk] w0 w) (h : RowS enc 3 tail blk (P ++ ([x] ++ (Y ++ S))) w) (hN : (P ++ ([x] ++ (Y ++ S))).length = N) (hn : N < 1000000)
    (hY0 : 0 < Y.length) (hY : Srt key Y) (hxy : ∀ y, y ∈ Y → x < y) (hx : x < n) (hy : ∀ y, y ∈ Y → y < n) :
    Calls Try.prog 100 #[.slice (some ⟨blk, 0, none⟩) N cap, .int .i64 (P.length : Int), .int .i64 ((P.length + 1 : Nat) : Int), .int .i64 ((P.length + 1 + Y.length : Nat) : Int), .func (.func g) #[] cb] w (Merged key enc tail blk P [x] Y S w) := by
  unfold Enters at eg
  have mixed : Try.prog.follows Departure.mixedOrders = true := by kernel_rfl
  have hNs : P.length + 1 + Y.length + S.length = N := by rw [← hN]; simp; omega
  have HR0 := Lib.hid h
  have HC := Lib.hid hC
  have HK0 := Lib.hid hK0
  have HXY := Lib.hid hxy
  have HY := Lib.hid hY
  have HYN := Lib.hid hy
  obtain ⟨a, ha⟩ : ∃ a, P.length = a := ⟨_, rfl⟩
  obtain ⟨l, hl⟩ : ∃ l, Y.length = l := ⟨_, rfl⟩
  rw [ha, hl] at hNs
  rw [hl] at hY0
  rw [ha, hl]
  have HL := Lib.hid (And.intro ha hl)
  clear h hC hK0 hxy hY hy hN ha hl
  obtain ⟨m, hm⟩ : ∃ m, a + 1 = m := ⟨_, rfl⟩
  obtain ⟨b, hb⟩ : ∃ b, m + l = b := ⟨_, rfl⟩
  rw [hm, hb]
  have e1 : (m : Int) - (a : Int) = 1 := by omega
  have ham : a < 1000000 := by omega
  have hbm : b < 1000000 := by omega
  go_enter Try.func100, Try.ntmps100
  go_wp2_with fail
  go_loopw [10, 11] (fun v10 v11 wr => ∃ (i j : Nat), v10 = .int .i64 ((m + i : Nat) : Int) ∧ v11 = .int .i64 ((m + j : Nat) : Int) ∧ i ≤ j ∧ j ≤ l ∧ Hid (i = 0 ∨ lx key (Y.getD (i - 1) 0) x) ∧ Hid (j = l ∨ lx key x (Y.getD j 0)) ∧ Hid (R.Keeps [] w wr)) (fun v10 v11 _ => (intOf v11).toNat - (intOf v10).toNat)
  case atStart => exact ⟨0, l, rfl, by rw [hb], by omega, Nat.le_refl _, Lib.hid (.inl rfl), Lib.hid (.inl rfl), Lib.hid (R.Keeps.refl _ _)⟩
  case round =>
    rename World => wr
    obtain ⟨i, j, rfl, rfl, hij, hjl, HI, HJ, HK⟩ := hrel
    by_cases hlt : i < j
    · obtain ⟨q, hq⟩ : ∃ q, (i + j) / 2 = q := ⟨_, rfl⟩
      obtain ⟨c, hc⟩ : ∃ c, m + q = c := ⟨_, rfl⟩
      obtain ⟨i1, hi1⟩ : ∃ i1, m + i = i1 := ⟨_, rfl⟩
      obtain ⟨j1, hj1⟩ : ∃ j1, m + j = j1 := ⟨_, rfl⟩
      rw [hi1, hj1]
      have hlt' : (i1 : Int) < (j1 : Int) := by omega
      obtain ⟨t, ht⟩ : ∃ t, i1 + j1 = t := ⟨_, rfl⟩
      have hti : (i1 : Int) + (j1 : Int) = (t : Int) := by omega
      have htc : t / 2 = c := by omega
      have htc' : (t : Int) / 2 = (c : Int) := by omega
      have wt := wr_small (x := t) (by omega)
      have wc := wr_small (x := c) (by omega)
      have wc1 := wr_small (x := c + 1) (by omega)
      have hcN : (c : Int) < (N : Int) := by omega
      have haN : (a : Int) < (N : Int) := by omega
      obtain ⟨yq, hyq⟩ : ∃ yq, Y.getD q 0 = yq := ⟨_, rfl⟩
      have hql : q < Y.length := by rw [HL.out.2]; omega
      have hmem : yq ∈ Y := by rw [← hyq, List.getD_eq_getElem?_getD, List.getElem?_eq_getElem hql]; exact List.getElem_mem hql
      have hxq := HXY.out yq hmem
      have hyn := HYN.out yq hmem
      have hsplit : Y = Y.take q ++ yq :: Y.drop (q + 1) := by
        have : yq = Y[q] := by rw [← hyq, List.getD_eq_getElem?_getD, List.getElem?_eq_getElem hql]; rfl
        rw [this, List.getElem_cons_drop, List.take_append_drop]
      have hRr := HR0.out.keep HK.out
      have c1 : wr.cell? ⟨blk, c, none⟩ = some (enc yq) := hRr.cell (A := P ++ [x] ++ Y.take q) (x := yq) (B := Y.drop (q + 1) ++ S) (by rw [List.append_assoc, List.append_assoc, ← List.cons_append, ← List.append_assoc (Y.take q), ← hsplit]) (by simp [HL.out.1]; omega)
      have c2 : wr.cell? ⟨blk, a, none⟩ = some (enc x) := hRr.cell (A := P) (x := x) (B := Y ++ S) rfl HL.out.1.symm
      obtain ⟨eu, heu⟩ := henc yq
      obtain ⟨ev, hev⟩ := henc x
      rw [heu] at c1
      rw [hev] at c2
      have CE : Hid (∀ w', R.Keeps [] wr w' → w'.cell? ⟨blk, c, none⟩ = some (.int .i64 eu) ∧ w'.cell? ⟨blk, a, none⟩ = some (.int .i64 ev)) := Lib.hid (fun w' hw => ⟨hw.cell c1 (by simp), hw.cell c2 (by simp)⟩)
      have HKW := Lib.hid (HK0.out.trans HK.out (fun k hk => by simp at hk))
      have HQ := Lib.hid hyq
      have HEN := Lib.hid (And.intro heu hev)
      clear hsplit hmem hyq c1 c2 hRr hql
      go_wp2_with fail
      apply R.wp_region_text [0, 1, 2, 3, 4, 5, 6, 7, 8] [9, 10] 11 (R.Keeps [] wr)
      case hm => kernel_rfl
      case hB => kernel_rfl
      case hd => rfl
      case hQ => exact fun _ _ _ _ _ h => h
      case hS => exact (R.Keeps.refl _ _).drew
      case hF =>
        intro w' hS
        obtain ⟨y0, y1⟩ := CE.out w' hS
        clear hS
        simp only [R.pickC, List.filterMap_cons, List.getElem?_toArray, List.getElem?_cons_zero, List.getElem?_cons_succ, List.filterMap_nil]
        (with_reducible refine R.wpStill_plain rfl (fun K hK => ?_)); go_simp; with_reducible refine hK _ ?_; clear hK K
        (with_reducible refine R.wpStill_plain rfl (fun K hK => ?_)); go_simp; with_reducible refine hK _ ?_; clear hK K
        (with_reducible refine R.wpStill_plain rfl (fun K hK => ?_)); go_simp; with_reducible refine hK _ ?_; clear hK K
        (with_reducible refine R.wpStill_plain rfl (fun K hK => ?_)); go_simp; with_reducible refine hK _ ?_; clear hK K
        (with_reducible refine R.wpStill_plain rfl (fun K hK => ?_)); go_simp; with_reducible refine hK _ ?_; clear hK K
        (with_reducible refine R.wpStill_plain rfl (fun K hK => ?_)); go_simp; with_reducible refine hK _ ?_; clear hK K
        (with_reducible refine R.wpStill_plain rfl (fun K hK => ?_)); go_simp; with_reducible refine hK _ ?_; clear hK K
        (with_reducible refine R.wpStill_plain rfl (fun K hK => ?_)); go_simp; with_reducible refine hK _ ?_; clear hK K
        (with_reducible refine R.wpStill_plain rfl (fun K hK => ?_)); go_simp; with_reducible refine hK _ ?_; clear hK K
        exact wpStill_nil rfl
      case hC =>
        simp only [R.chainOf, List.getElem?_toArray, List.getElem?_cons_zero, List.getElem?_cons_succ, Nat.reduceBNe, Bool.and_true, Bool.and_false, Bool.false_and]
        refine R.wpSeq_same (fun K hK => ?_)
        go_simp
        rw [← HEN.out.1, ← HEN.out.2]
        refine (HC.out _ HKW.out.drew yq x hyn hx).mono ?_
        rintro e w2 ⟨cr, rfl, hcr, hB2⟩
        have hK2 : R.Keeps [] wr w2 := ((R.Keeps.refl [] _).drew).trans (R.Keeps.of_below [] hB2) (fun k hk => by simp at hk)
        refine hK _ _ hK2 ?_
        clear hK K
        have HK2 := Lib.hid hK2
        clear hB2 hK2
        by_cases hneg : cr < 0
        · have HNEG : Hid (lx key yq x) := Lib.hid (.inl (hcr.1 hneg))
          clear hcr
          refine R.wpSeq_same (fun K hK => ?_)
          go_simp
          with_reducible refine hK _ _ HK2.out ?_
          clear hK K
          refine R.wpSeq_nil ?_
          go_wp2_with fail
          refine ⟨⟨q + 1, j, by go_num, by go_num, by omega, hjl, Lib.hid (.inr (by rw [Nat.add_sub_cancel, HQ.out]; exact HNEG.out)), HJ, Lib.hid (HK.out.trans HK2.out (fun k hk _ => hk))⟩, by simp [intOf]; omega⟩
        · have HNEG : Hid (lx key x yq) := Lib.hid (lx.not (fun hh => hneg (hcr.2 ((lx_right hxq).1 hh))) (by omega))
          have hnn : decide (cr < 0) = false := decide_eq_false hneg
          clear hcr
          refine R.wpSeq_same (fun K hK => ?_)
          go_simp
          with_reducible refine hK _ _ HK2.out ?_
          clear hK K
          refine R.wpSeq_nil ?_
          go_wp2_with fail
          refine ⟨⟨i, q, by go_num, by go_num, by omega, by omega, HI, Lib.hid (.inr (by rw [HQ.out]; exact HNEG.out)), Lib.hid (HK.out.trans HK2.out (fun k hk _ => hk))⟩, by simp [intOf]; omega⟩
    · obtain rfl : i = j := by omega
      obtain ⟨i1, hi1⟩ : ∃ i1, m + i = i1 := ⟨_, rfl⟩
      obtain ⟨z1, hz1⟩ : ∃ z1, a + i = z1 := ⟨_, rfl⟩
      rw [hi1]
      have hzi : (i1 : Int) - 1 = (z1 : Int) := by omega
      have wz := wr_small (x := z1) (by omega)
      have hil : i ≤ Y.length := by rw [HL.out.2]; omega
      have hti : (Y.take i).length = i := by simp; omega
      have HTI := Lib.hid hti
      have HR1 : Hid (RowS enc 3 tail blk (P ++ ([] ++ (x :: (Y.take i ++ (Y.drop i ++ S))))) wr) := Lib.hid (by have := HR0.out.keep HK.out; rw [← List.append_assoc (Y.take i), List.take_append_drop]; exact this)
      clear hti
      go_wp2_with fail
      go_loopw [13] (fun v13 wq => ∃ (A B : List Nat), v13 = .int .i64 ((a + A.length : Nat) : Int) ∧ A.length ≤ i ∧ Hid (Y.take i = A ++ B) ∧ Hid (RowS enc 3 tail blk (P ++ (A ++ (x :: (B ++ (Y.drop i ++ S))))) wq) ∧ Hid (R.Keeps [blk] w wq)) (fun v13 _ => z1 - (intOf v13).toNat)
      case atStart => exact ⟨[], Y.take i, rfl, Nat.zero_le _, Lib.hid rfl, HR1, Lib.hid (HK.out.mono (fun k hk => by simp at hk))⟩
      case round =>
        rename World => wq
        obtain ⟨A, B, rfl, hAi, HAB, HRq, HKq⟩ := hrel
        obtain ⟨k, hk⟩ : ∃ k, a + A.length = k := ⟨_, rfl⟩
        rw [hk]
        by_cases hlt2 : k < z1
        · obtain ⟨y, B', rfl⟩ : ∃ y B', B = y :: B' := by
            cases B with
            | nil => exfalso; have h1 := HTI.out; rw [HAB.out] at h1; simp at h1; omega
            | cons y B' => exact ⟨y, B', rfl⟩
          have hlt2' : (k : Int) < (z1 : Int) := by omega
          obtain ⟨k1, hk1⟩ : ∃ k1, k + 1 = k1 := ⟨_, rfl⟩
          have hkk : (k : Int) + 1 = (k1 : Int) := by omega
          have wk := wr_small (x := k1) (by omega)
          have b1 : (k : Int) < (N : Int) := by omega
          have b2 : (k1 : Int) < (N : Int) := by omega
          have hsp : P ++ (A ++ (x :: (y :: B' ++ (Y.drop i ++ S)))) = (P ++ A) ++ x :: ([] ++ y :: (B' ++ (Y.drop i ++ S))) := by simp
          have ha : k = (P ++ A).length := by simp [HL.out.1, ← hk]
          have hb : k1 = (P ++ A).length + 1 + ([] : List Nat).length := by rw [← ha]; simp; omega
          have c1 : wq.cell? ⟨blk, k, none⟩ = some (enc x) := HRq.out.cell hsp ha
          have c2 : wq.cell? ⟨blk, k1, none⟩ = some (enc y) := HRq.out.cell (A := (P ++ A) ++ [x]) (x := y) (B := B' ++ (Y.drop i ++ S)) (by simp) (by rw [hb]; simp; omega)
          have f1 := HRq.out.frozen k
          have f2 := HRq.out.frozen k1
          obtain ⟨eu, heu⟩ := henc x
          obtain ⟨ev, hev⟩ := henc y
          rw [heu] at c1
          rw [hev] at c2
          have HEN := Lib.hid (And.intro heu hev)
          have HSP := Lib.hid (And.intro hsp (And.intro ha hb))
          have HKA := Lib.hid hk
          clear heu hev ha hb hsp hk
          go_wp2_with fail
          go_big_region_o
          all_goals go_wp2_with fail
          all_goals
            refine ⟨⟨A ++ [y], B', by simp only [List.length_append, List.length_cons, List.length_nil]; have := HKA.out; congr 1; omega, by simp only [List.length_append, List.length_cons, List.length_nil]; have := HKA.out; omega, Lib.hid (by rw [HAB.out]; simp), ?_, Lib.hid ((((HKq.out).setCell (by simp) _).setCell (by simp) _).drew)⟩, by simp [intOf]; omega⟩
            have h5 := HRq.out.swap HSP.out.1 HSP.out.2.1 HSP.out.2.2
            rw [HEN.out.1, HEN.out.2] at h5
            exact Lib.hid (by simpa using h5.keep ((R.Keeps.refl [] _).drew))
        · have hlt2' : ¬ (k : Int) < (z1 : Int) := by omega
          go_wp2_with fail
          go_end0
          have hB : B = [] := by
            have h1 := HTI.out
            rw [HAB.out] at h1
            simp at h1
            exact List.eq_nil_of_length_eq_zero (by omega)
          subst hB
          have hA : A = Y.take i := by have := HAB.out; simpa using this.symm
          subst hA
          have hYs := HY.out
          rw [← List.take_append_drop i Y] at hYs
          refine ⟨rfl, Y.take i ++ x :: Y.drop i, ?_, ?_, HKq.out, by simpa using HRq.out⟩
          · refine List.perm_middle.trans ?_
            rw [List.take_append_drop]
            exact List.Perm.refl _
          · refine put_in hYs ?_ ?_
            · rcases HI.out with h1 | h1
              · left; rw [h1]; rfl
              · by_cases h0 : i = 0
                · left; rw [h0]; rfl
                · right
                  rw [HTI.out]
                  have : (Y.take i).getD (i - 1) 0 = Y.getD (i - 1) 0 := by simp [List.getD_eq_getElem?_getD, List.getElem?_take, show i - 1 < i by omega]
                  rw [this]; exact h1
            · rcases HJ.out with h1 | h1
              · left; rw [h1]; exact List.drop_eq_nil_of_le (by rw [HL.out.2]; exact Nat.le_refl _)
              · right
                have : (Y.drop i).getD 0 0 = Y.getD i 0 := by simp [List.getD_eq_getElem?_getD]
                rw [this]; exact h1
set_option maxHeartbeats 4000000 in
set_option maxRecDepth 100000 in
theorem merge2_c {key : Nat → Int} {enc : Nat → Value} (henc : ∀ x, ∃ v, enc x = .int .i64 v) {tail : List Value} {blk cap n g : Nat} {cb : Array Value} {w0 : World} (eg : Enters g) (hC : CmpS key enc n blk g cb w0)
    (P X : List Nat) (y : Nat) (S : List Nat) (N : Nat) (w : World) (hK0 : R.Keeps [blk] w0 w) (h : RowS enc 3 tail blk (P ++ (X ++ ([y] ++ S))) w) (hN : (P ++ (X ++ ([y] ++ S))).length = N) (hn : N < 1000000)
    (hX0 : 1 < X.length) (hX : Srt key X) (hxy : ∀ x, x ∈ X → x < y) (hx : ∀ x, x ∈ X → x < n) (hy : y < n) :
    Calls Try.prog 100 #[.slice (some ⟨blk, 0, none⟩) N cap, .int .i64 (P.length : Int), .int .i64 ((P.length + X.length : Nat) : Int), .int .i64 ((P.length + X.length + 1 : Nat) : Int), .func (.func g) #[] cb] w (Merged key enc tail blk P X [y] S w) := by
  unfold Enters at eg
  have mixed : Try.prog.follows Departure.mixedOrders = true := by kernel_rfl
  have hNs : P.length + X.length + 1 + S.length = N := by rw [← hN]; simp; omega
  have HR0 := Lib.hid h
  have HC := Lib.hid hC
  have HK0 := Lib.hid hK0
  have HXY := Lib.hid hxy
  have HX := Lib.hid hX
  have HXN := Lib.hid hx
  obtain ⟨a, ha⟩ : ∃ a, P.length = a := ⟨_, rfl⟩
  obtain ⟨l, hl⟩ : ∃ l, X.length = l := ⟨_, rfl⟩
  rw [ha, hl] at hNs
  rw [hl] at hX0
  rw [ha, hl]
  have HL := Lib.hid (And.intro ha hl)
  clear h hC hK0 hxy hX hx hN ha hl
  obtain ⟨m, hm⟩ : ∃ m, a + l = m := ⟨_, rfl⟩
  obtain ⟨b, hb⟩ : ∃ b, m + 1 = b := ⟨_, rfl⟩
  rw [hm, hb]
  have e0 : (m : Int) - (a : Int) = (l : Int) := by omega
  have e00 : ((l : Int) == 1) = false := by simp; omega
  have e01 : ¬ ((l : Int) = 1) := by omega
  have wl := wr_small (x := l) (by omega)
  have e1 : (b : Int) - (m : Int) = 1 := by omega
  have ham : a < 1000000 := by omega
  have hbm : b < 1000000 := by omega
  go_enter Try.func100, Try.ntmps100
  go_wp2_with fail
  go_loopw [14, 15] (fun v14 v15 wr => ∃ (i j : Nat), v14 = .int .i64 ((a + i : Nat) : Int) ∧ v15 = .int .i64 ((a + j : Nat) : Int) ∧ i ≤ j ∧ j ≤ l ∧ Hid (i = 0 ∨ lx key (X.getD (i - 1) 0) y) ∧ Hid (j = l ∨ lx key y (X.getD j 0)) ∧ Hid (R.Keeps [] w wr)) (fun v14 v15 _ => (intOf v15).toNat - (intOf v14).toNat)
  case atStart => exact ⟨0, l, rfl, by rw [hm], by omega, Nat.le_refl _, Lib.hid (.inl rfl), Lib.hid (.inl rfl), Lib.hid (R.Keeps.refl _ _)⟩
  case round =>
    rename World => wr
    obtain ⟨i, j, rfl, rfl, hij, hjl, HI, HJ, HK⟩ := hrel
    by_cases hlt : i < j
    · obtain ⟨q, hq⟩ : ∃ q, (i + j) / 2 = q := ⟨_, rfl⟩
      obtain ⟨c, hc⟩ : ∃ c, a + q = c := ⟨_, rfl⟩
      obtain ⟨i1, hi1⟩ : ∃ i1, a + i = i1 := ⟨_, rfl⟩
      obtain ⟨j1, hj1⟩ : ∃ j1, a + j = j1 := ⟨_, rfl⟩
      rw [hi1, hj1]
      have hlt' : (i1 : Int) < (j1 : Int) := by omega
      obtain ⟨t, ht⟩ : ∃ t, i1 + j1 = t := ⟨_, rfl⟩
      have hti : (i1 : Int) + (j1 : Int) = (t : Int) := by omega
      have htc : t / 2 = c := by omega
      have htc' : (t : Int) / 2 = (c : Int) := by omega
      have wt := wr_small (x := t) (by omega)
      have wc := wr_small (x := c) (by omega)
      have wc1 := wr_small (x := c + 1) (by omega)
      have hcN : (c : Int) < (N : Int) := by omega
      have haN : (m : Int) < (N : Int) := by omega
      obtain ⟨xq, hyq⟩ : ∃ xq, X.getD q 0 = xq := ⟨_, rfl⟩
      have hql : q < X.length := by rw [HL.out.2]; omega
      have hmem : xq ∈ X := by rw [← hyq, List.getD_eq_getElem?_getD, List.getElem?_eq_getElem hql]; exact List.getElem_mem hql
      have hxq := HXY.out xq hmem
      have hxn := HXN.out xq hmem
      have hsplit : X = X.take q ++ xq :: X.drop (q + 1) := by
        have : xq = X[q] := by rw [← hyq, List.getD_eq_getElem?_getD, List.getElem?_eq_getElem hql]; rfl
        rw [this, List.getElem_cons_drop, List.take_append_drop]
      have hRr := HR0.out.keep HK.out
      have c1 : wr.cell? ⟨blk, c, none⟩ = some (enc xq) := hRr.cell (A := P ++ X.take q) (x := xq) (B := X.drop (q + 1) ++ ([y] ++ S)) (by rw [List.append_assoc, ← List.cons_append, ← List.append_assoc (X.take q), ← hsplit]) (by simp [HL.out.1]; omega)
      have c2 : wr.cell? ⟨blk, m, none⟩ = some (enc y) := hRr.cell (A := P ++ X) (x := y) (B := S) (by simp) (by simp [HL.out.1, HL.out.2]; omega)
      obtain ⟨eu, heu⟩ := henc y
      obtain ⟨ev, hev⟩ := henc xq
      rw [heu] at c2
      rw [hev] at c1
      have CE : Hid (∀ w', R.Keeps [] wr w' → w'.cell? ⟨blk, m, none⟩ = some (.int .i64 eu) ∧ w'.cell? ⟨blk, c, none⟩ = some (.int .i64 ev)) := Lib.hid (fun w' hw => ⟨hw.cell c2 (by simp), hw.cell c1 (by simp)⟩)
      have HKW := Lib.hid (HK0.out.trans HK.out (fun k hk => by simp at hk))
      have HQ := Lib.hid hyq
      have HEN := Lib.hid (And.intro heu hev)
      clear hsplit hmem hyq c1 c2 hRr hql
      go_wp2_with fail
      apply R.wp_region_text [0, 1, 2, 3, 4, 5, 6, 7, 8] [9, 10, 11] 12 (R.Keeps [] wr)
      case hm => kernel_rfl
      case hB => kernel_rfl
      case hd => rfl
      case hQ => exact fun _ _ _ _ _ h => h
      case hS => exact (R.Keeps.refl _ _).drew
      case hF =>
        intro w' hS
        obtain ⟨y0, y1⟩ := CE.out w' hS
        clear hS
        simp only [R.pickC, List.filterMap_cons, List.getElem?_toArray, List.getElem?_cons_zero, List.getElem?_cons_succ, List.filterMap_nil]
        (with_reducible refine R.wpStill_plain rfl (fun K hK => ?_)); go_simp; with_reducible refine hK _ ?_; clear hK K
        (with_reducible refine R.wpStill_plain rfl (fun K hK => ?_)); go_simp; with_reducible refine hK _ ?_; clear hK K
        (with_reducible refine R.wpStill_plain rfl (fun K hK => ?_)); go_simp; with_reducible refine hK _ ?_; clear hK K
        (with_reducible refine R.wpStill_plain rfl (fun K hK => ?_)); go_simp; with_reducible refine hK _ ?_; clear hK K
        (with_reducible refine R.wpStill_plain rfl (fun K hK => ?_)); go_simp; with_reducible refine hK _ ?_; clear hK K
        (with_reducible refine R.wpStill_plain rfl (fun K hK => ?_)); go_simp; with_reducible refine hK _ ?_; clear hK K
        (with_reducible refine R.wpStill_plain rfl (fun K hK => ?_)); go_simp; with_reducible refine hK _ ?_; clear hK K
        (with_reducible refine R.wpStill_plain rfl (fun K hK => ?_)); go_simp; with_reducible refine hK _ ?_; clear hK K
        (with_reducible refine R.wpStill_plain rfl (fun K hK => ?_)); go_simp; with_reducible refine hK _ ?_; clear hK K
        exact wpStill_nil rfl
      case hC =>
        simp only [R.chainOf, List.getElem?_toArray, List.getElem?_cons_zero, List.getElem?_cons_succ, Nat.reduceBNe, Bool.and_true, Bool.and_false, Bool.false_and]
        refine R.wpSeq_same (fun K hK => ?_)
        go_simp
        rw [← HEN.out.1, ← HEN.out.2]
        refine (HC.out _ HKW.out.drew y xq hy hxn).mono ?_
        rintro e w2 ⟨cr, rfl, hcr, hB2⟩
        have hK2 : R.Keeps [] wr w2 := ((R.Keeps.refl [] _).drew).trans (R.Keeps.of_below [] hB2) (fun k hk => by simp at hk)
        refine hK _ _ hK2 ?_
        clear hK K
        have HK2 := Lib.hid hK2
        clear hB2 hK2
        by_cases hneg : cr < 0
        · have HNEG : Hid (lx key y xq) := Lib.hid (.inl (hcr.1 hneg))
          clear hcr
          refine R.wpSeq_same (fun K hK => ?_)
          go_simp
          with_reducible refine hK _ _ HK2.out ?_
          clear hK K
          refine R.wpSeq_same (fun K hK => ?_)
          go_simp
          with_reducible refine hK _ _ HK2.out ?_
          clear hK K
          refine R.wpSeq_nil ?_
          go_wp2_with fail
          refine ⟨⟨i, q, by go_num, by go_num, by omega, by omega, HI, Lib.hid (.inr (by rw [HQ.out]; exact HNEG.out)), Lib.hid (HK.out.trans HK2.out (fun k hk _ => hk))⟩, by simp [intOf]; omega⟩
        · have HNEG : Hid (lx key xq y) := Lib.hid (lx.not (fun hh => hneg (hcr.2 ((lx_right hxq).1 hh))) (by omega))
          have hnn : decide (cr < 0) = false := decide_eq_false hneg
          clear hcr
          refine R.wpSeq_same (fun K hK => ?_)
          go_simp
          with_reducible refine hK _ _ HK2.out ?_
          clear hK K
          refine R.wpSeq_same (fun K hK => ?_)
          go_simp
          with_reducible refine hK _ _ HK2.out ?_
          clear hK K
          refine R.wpSeq_nil ?_
          go_wp2_with fail
          refine ⟨⟨q + 1, j, by go_num, by go_num, by omega, hjl, Lib.hid (.inr (by rw [Nat.add_sub_cancel, HQ.out]; exact HNEG.out)), HJ, Lib.hid (HK.out.trans HK2.out (fun k hk _ => hk))⟩, by simp [intOf]; omega⟩
    · obtain rfl : i = j := by omega
      obtain ⟨i1, hi1⟩ : ∃ i1, a + i = i1 := ⟨_, rfl⟩
      rw [hi1]
      have hil : i ≤ X.length := by rw [HL.out.2]; omega
      have hti : (X.drop i).length = l - i := by simp [HL.out.2]
      have HTI := Lib.hid hti
      have HR1 : Hid (RowS enc 3 tail blk (P ++ (X.take i ++ (X.drop i ++ (y :: ([] ++ S))))) wr) := Lib.hid (by have := HR0.out.keep HK.out; rw [← List.append_assoc (X.take i), List.take_append_drop]; exact this)
      clear hti
      go_wp2_with fail
      go_loopw [17] (fun v17 wq => ∃ (A B : List Nat), v17 = .int .i64 ((i1 + A.length : Nat) : Int) ∧ A.length ≤ l - i ∧ Hid (X.drop i = A ++ B) ∧ Hid (RowS enc 3 tail blk (P ++ (X.take i ++ (A ++ (y :: (B ++ S))))) wq) ∧ Hid (R.Keeps [blk] w wq)) (fun v17 _ => (intOf v17).toNat)
      case atStart => exact ⟨X.drop i, [], by rw [HTI.out]; congr 1; omega, by rw [HTI.out]; exact Nat.le_refl _, Lib.hid (by simp), HR1, Lib.hid (HK.out.mono (fun k hk => by simp at hk))⟩
      case round =>
        rename World => wq
        obtain ⟨A, B, rfl, hAi, HAB, HRq, HKq⟩ := hrel
        obtain ⟨k, hk⟩ : ∃ k, i1 + A.length = k := ⟨_, rfl⟩
        rw [hk]
        by_cases hlt2 : i1 < k
        · obtain ⟨A', z, rfl⟩ : ∃ A' z, A = A' ++ [z] := by
            have hne : A ≠ [] := by intro e; rw [e] at hk; simp at hk; omega
            exact ⟨A.dropLast, A.getLast hne, (List.dropLast_concat_getLast hne).symm⟩
          have hlt2' : (i1 : Int) < (k : Int) := by omega
          obtain ⟨k1, hk1⟩ : ∃ k1, k1 + 1 = k := ⟨k - 1, by omega⟩
          have hkk : (k : Int) - 1 = (k1 : Int) := by omega
          have wk := wr_small (x := k1) (by omega)
          have b1 : (k : Int) < (N : Int) := by omega
          have b2 : (k1 : Int) < (N : Int) := by omega
          have hAl : A'.length + 1 = k - i1 := by simp at hk; omega
          have hsp : P ++ (X.take i ++ ((A' ++ [z]) ++ (y :: (B ++ S)))) = (P ++ (X.take i ++ A')) ++ z :: ([] ++ y :: (B ++ S)) := by simp
          have ha : k1 = (P ++ (X.take i ++ A')).length := by simp [HL.out.1]; omega
          have hb : k = (P ++ (X.take i ++ A')).length + 1 + ([] : List Nat).length := by rw [← ha]; simp; omega
          have c1 : wq.cell? ⟨blk, k1, none⟩ = some (enc z) := HRq.out.cell hsp ha
          have c2 : wq.cell? ⟨blk, k, none⟩ = some (enc y) := HRq.out.cell (A := (P ++ (X.take i ++ A')) ++ [z]) (x := y) (B := B ++ S) (by simp) (by rw [hb]; simp; omega)
          have f1 := HRq.out.frozen k
          have f2 := HRq.out.frozen k1
          obtain ⟨eu, heu⟩ := henc z
          obtain ⟨ev, hev⟩ := henc y
          rw [heu] at c1
          rw [hev] at c2
          have HEN := Lib.hid (And.intro heu hev)
          have HSP := Lib.hid (And.intro hsp (And.intro ha hb))
          have HKA := Lib.hid hk
          have hcomm : ∀ (w : World), (w.setCell ⟨blk, k, none⟩ (.int .i64 eu)).setCell ⟨blk, k1, none⟩ (.int .i64 ev) = (w.setCell ⟨blk, k1, none⟩ (.int .i64 ev)).setCell ⟨blk, k, none⟩ (.int .i64 eu) := fun w => setCell_comm w (by omega)
          have HCM := Lib.hid hcomm
          clear heu hev ha hb hsp hk hcomm
          go_wp2_with fail
          go_big_region_o
          all_goals go_wp2_with fail
          all_goals
            refine ⟨⟨A', z :: B, by have := HKA.out; simp only [List.length_append, List.length_cons, List.length_nil] at this; rw [show k1 = i1 + A'.length by omega], by simp only [List.length_append, List.length_cons, List.length_nil] at hAi; omega, Lib.hid (by rw [HAB.out]; simp), ?_, Lib.hid ((((HKq.out).setCell (by simp) _).setCell (by simp) _).drew)⟩, by simp [intOf]; omega⟩
            have h5 := HRq.out.swap HSP.out.1 HSP.out.2.1 HSP.out.2.2
            rw [HEN.out.1, HEN.out.2, ← HCM.out] at h5
            exact Lib.hid (by simpa using h5.keep ((R.Keeps.refl [] _).drew))
        · have hlt2' : ¬ (i1 : Int) < (k : Int) := by omega
          go_wp2_with fail
          go_end0
          have hA : A = [] := List.eq_nil_of_length_eq_zero (by omega)
          subst hA
          have hB : B = X.drop i := by have := HAB.out; simpa using this.symm
          subst hB
          have hXs := HX.out
          rw [← List.take_append_drop i X] at hXs
          refine ⟨rfl, X.take i ++ y :: X.drop i, ?_, ?_, HKq.out, by simpa using HRq.out⟩
          · refine List.perm_middle.trans ?_
            rw [List.take_append_drop]
            exact (List.perm_append_comm (l₁ := [y]) (l₂ := X))
          · refine put_in hXs ?_ ?_
            · rcases HI.out with h1 | h1
              · left; rw [h1]; rfl
              · by_cases h0 : i = 0
                · left; rw [h0]; rfl
                · right
                  have hl : (X.take i).length = i := by simp; omega
                  rw [hl]
                  have : (X.take i).getD (i - 1) 0 = X.getD (i - 1) 0 := by simp [List.getD_eq_getElem?_getD, List.getElem?_take, show i - 1 < i by omega]
                  rw [this]; exact h1
            · rcases HJ.out with h1 | h1
              · left; rw [h1]; exact List.drop_eq_nil_of_le (by rw [HL.out.2]; exact Nat.le_refl _)
              · right
                have : (X.drop i).getD 0 0 = X.getD i 0 := by simp [List.getD_eq_getElem?_getD]
                rw [this]; exact h1
end Go.Proofs.Ytcpojohpmcnnhaa.A
