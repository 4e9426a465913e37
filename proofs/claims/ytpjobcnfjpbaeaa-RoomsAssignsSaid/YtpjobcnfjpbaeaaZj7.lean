/- For all bookings the statement RoomsAssigns holds: Go's function returns true and changes nothing that existed. -/
import Derived.Test.YtpjobcnfjpbaeaaRows
import Derived.WalkKit
import Derived.ProofKit
import Derived.OpenShut
import Derived.ShutString
import Derived.ChangeOld
import Derived.Below
import Derived.SizedLaws
import Derived.Deep.Slices
import Derived.Deep.Strs
import Derived.Lib.SmallJoins
import Derived.Test.YtpjobcnfjpbaeaaZj6
set_option linter.unusedSimpArgs false
set_option linter.unusedVariables false

namespace Go.Proofs.Ytpjobcnfjpbaeaa.N
open Go.RowKit Go.Proofs.YtpjobcnfjpbaeaaW.PrintWords Go.Proofs.YtpjobcnfjpbaeaaW.PrintLast Go.Proofs.YtpjobcnfjpbaeaaW.PrintMore
open Go.Proofs.Ytpjobcnfjpbaeaa.PA Go.Proofs.Ytpjobcnfjpbaeaa.M Go.Proofs.Ytpjobcnfjpbaeaa.A
def castL (S : List Nat) : List Int := S.map fun i => ((i : Nat) : Int)
theorem greedy_of {l : List S47} (hB : Bks l) {S : List Nat} (hs : Srt (keyS l) S) (hr : ∀ x, x ∈ S → x < l.length) : Greedy l (castL S) (assignF l (castL S)).1 (assignF l (castL S)).2 := by
  have hnd : (castL S).Nodup := by
    unfold castL
    rw [List.Nodup, List.pairwise_map]
    exact hs.imp (fun {a b} h e => by have : a = b := by omega
                                      subst this; exact h.asymm h)
  have hasc : (castL S).Pairwise (fun i j => bF l i ≤ bF l j) := by
    unfold castL
    rw [List.pairwise_map]
    refine hs.imp (fun {a b} h => ?_)
    unfold bF
    rw [Int.toNat_natCast, Int.toNat_natCast]
    unfold lx keyS at h
    show (l.getD a z47).f0 ≤ (l.getD b z47).f0
    have : (l.getD a ⟨0, 0, 0⟩).f0 ≤ (l.getD b ⟨0, 0, 0⟩).f0 := by omega
    exact this
  have hrng : ∀ i ∈ castL S, 0 ≤ i ∧ i < l.length := by
    intro i hi
    unfold castL at hi
    obtain ⟨k, hk, rfl⟩ := List.mem_map.1 hi
    have := hr k hk
    omega
  have h := greedy_fold hB (castL S) [] [] (List.replicate l.length 0) (greedy_nil l) (by simpa using hnd) hrng (by simpa using hasc)
  simpa [assignF] using h
theorem assign_snoc (l : List S47) (S : List Nat) (i : Nat) : assignF l (castL (S ++ [i])) = stepA l (assignF l (castL S)) (i : Int) := by
  unfold assignF castL
  rw [List.map_append, List.foldl_append]
  rfl
theorem mid_srt {l : List S47} (hB : ∀ i, i < l.length → 0 ≤ (l.getD i z47).f0) (t i : Nat) : Srt (keyS l) (doneL l t ++ nightL l t i) := by
  refine Srt.append.2 ⟨done_srt hB t, night_srt l t _, fun x hx y hy => .inl ?_⟩
  have h1 := ((done_mem hB).1 hx).2
  have h2 := (night_mem.1 hy).2
  show (l.getD x z47).f0 < (l.getD y z47).f0
  omega
theorem asg_l1 {l : List S47} (hl : l.length ≤ 1000) (hB : Bks l) (hB0 : ∀ i, i < l.length → 0 ≤ (l.getD i z47).f0) {t : Nat} (ht : t < 60) {r : List Int × Int}
    (h : Ev (fun k => turndownref08_Assign.l0 k l (assignF l (castL (doneL l (t + 1)))).2 ((assignF l (castL (doneL l (t + 1)))).1.length : Int) (castL (doneL l (t + 1))) ((t + 1 : Nat) : Int)) r) :
    ∀ d i, i + d = l.length → Ev (fun k => turndownref08_Assign.l1 k l (assignF l (castL (doneL l t ++ nightL l t i))).2 ((assignF l (castL (doneL l t ++ nightL l t i))).1.length : Int) (castL (doneL l t ++ nightL l t i)) (t : Int) (i : Int)) r := by
  intro d
  induction d with
  | zero =>
    intro i hi
    obtain rfl : i = l.length := by omega
    refine Ev.step (fun k => ?_) h
    have e : wrap64 ((t : Int) + 1) = ((t + 1 : Nat) : Int) := by unfold wrap64; omega
    rw [turndownref08_Assign.l1, if_neg (by omega), e]
    rfl
  | succ d ih =>
    intro i hi
    have hi' : i < l.length := by omega
    have hih := ih (i + 1) (by omega)
    have e1 : wrap64 ((i : Int) + 1) = ((i + 1 : Nat) : Int) := by unfold wrap64; omega
    by_cases c : (l.getD i z47).f0 = (t : Int)
    · have hsrt := mid_srt hB0 t i
      have hrng : ∀ x, x ∈ doneL l t ++ nightL l t i → x < l.length := fun x hx => by
        rcases List.mem_append.1 hx with h1 | h1
        · exact ((done_mem hB0).1 h1).1
        · have := (night_mem.1 h1).1; omega
      have hg := greedy_of hB hsrt hrng
      have hnx : doneL l t ++ nightL l t (i + 1) = (doneL l t ++ nightL l t i) ++ [i] := by rw [nightL, if_pos c, List.append_assoc]
      rw [hnx, assign_snoc] at hih
      obtain ⟨S, hS⟩ : ∃ S, doneL l t ++ nightL l t i = S := ⟨_, rfl⟩
      rw [hS] at hsrt hrng hg hih ⊢
      have hle : ∀ j ∈ castL S, bF l j ≤ bF l (i : Int) := by
        intro j hj
        unfold castL at hj
        obtain ⟨k, hk, rfl⟩ := List.mem_map.1 hj
        rw [← hS] at hk
        unfold bF
        rw [Int.toNat_natCast, Int.toNat_natCast, c]
        rcases List.mem_append.1 hk with h1 | h1
        · have := ((done_mem hB0).1 h1).2; omega
        · have := (night_mem.1 h1).2; omega
      have hlen : (castL S).length ≤ 1000 := by
        have h1 : S.Nodup := hsrt.imp (fun {a b} h e => by subst e; exact h.asymm h)
        have h2 := inj_le (fun x : Nat => x) S (List.range l.length) (by simpa using h1) (fun x hx => List.mem_range.2 (hrng x hx))
        unfold castL
        rw [List.length_map]
        simp at h2
        omega
      have hfl := (foldA_len (l := l) (castL S) ([], List.replicate l.length 0)).2
      have hcast : castL (S ++ [i]) = castL S ++ [(i : Int)] := by unfold castL; rw [List.map_append]; rfl
      rw [hcast] at hih
      have hfl' : (assignF l (castL S)).1.length ≤ (castL S).length := by simpa [assignF] using hfl
      obtain ⟨⟨free, out⟩, hst⟩ : ∃ st, assignF l (castL S) = st := ⟨_, rfl⟩
      rw [hst] at hih hg hfl' ⊢
      simp only at hg hfl' ⊢
      rw [stepA_out, stepA_many, Int.toNat_natCast] at hih
      have hidx := idxF_range (fun t => decide (t ≤ bF l (i : Int))) free
      have hrs : 0 ≤ roomG l free (i : Int) ∧ roomG l free (i : Int) ≤ 1000 := by
        unfold roomG
        split <;> omega
      refine Ev.step (fun k => ?_) (room_l2 (many := (free.length : Int)) (t := (t : Int)) hl hg.len hi' hg.rng hlen hrs.2 (room_free hg) (room_min hg hB (by omega) (by omega) hle) hih _ 0 (Int.le_refl _) hrs.1 (Nat.le_refl _))
      rw [turndownref08_Assign.l1, if_pos (by omega), if_pos (by omega), rdT47, if_pos c]
    · have hnx : nightL l t (i + 1) = nightL l t i := by rw [nightL, if_neg c, List.append_nil]
      rw [hnx] at hih
      refine Ev.step (fun k => ?_) hih
      rw [turndownref08_Assign.l1, if_pos (by omega), if_pos (by omega), rdT47, if_neg c, e1]
theorem asg_ev {l : List S47} (hl : l.length ≤ 1000) (hB : Bks l) (hB0 : ∀ i, i < l.length → 0 ≤ (l.getD i z47).f0 ∧ (l.getD i z47).f0 < 60) : Ev (fun k => turndownref08_Assign.f k l) ((assignF l (ordG l)).2, ((assignF l (ordG l)).1.length : Int)) := by
  have hG : ordG l = castL (doneL l 60) := by rw [done_ord hB0]; rfl
  rw [hG]
  have key : ∀ d t, t + d = 60 → Ev (fun k => turndownref08_Assign.l0 k l (assignF l (castL (doneL l t))).2 ((assignF l (castL (doneL l t))).1.length : Int) (castL (doneL l t)) (t : Int)) ((assignF l (castL (doneL l 60))).2, ((assignF l (castL (doneL l 60))).1.length : Int)) := by
    intro d
    induction d with
    | zero =>
      intro t ht
      obtain rfl : t = 60 := by omega
      refine Ev.step (f := fun _ => some ((assignF l (castL (doneL l 60))).2, ((assignF l (castL (doneL l 60))).1.length : Int))) (fun k => ?_) (Ev.now _)
      rw [turndownref08_Assign.l0, if_neg (by omega)]
    | succ d ih =>
      intro t ht
      have h1 := asg_l1 hl hB (fun i hi => (hB0 i hi).1) (show t < 60 by omega) (ih (t + 1) (by omega)) l.length 0 (by omega)
      rw [nightL, List.append_nil] at h1
      refine Ev.step (fun k => ?_) h1
      rw [turndownref08_Assign.l0, if_pos (by omega)]
      rfl
  refine Ev.congr (fun k => ?_) (key 60 0 rfl)
  unfold turndownref08_Assign.f
  rw [if_pos (by omega), if_pos (by omega), Int.toNat_natCast]
  rfl
end Go.Proofs.Ytpjobcnfjpbaeaa.N

namespace Go.Proofs.Ytpjobcnfjpbaeaa.N
open Go.RowKit Go.Proofs.YtpjobcnfjpbaeaaW.PrintWords Go.Proofs.YtpjobcnfjpbaeaaW.PrintLast Go.Proofs.YtpjobcnfjpbaeaaW.PrintMore
open Go.Proofs.Ytpjobcnfjpbaeaa.PA Go.Proofs.Ytpjobcnfjpbaeaa.M Go.Proofs.Ytpjobcnfjpbaeaa.A
theorem cntR_take (l : List S47) (t : Nat) : ∀ i, i ≤ l.length → cntR l t i = cntI (l.take i) t
  | 0, _ => by simp [cntR, cntI]
  | i + 1, h => by
    have hi : i < l.length := by omega
    rw [cntR, cntR_take l t i (by omega), List.take_succ_eq_append_getElem hi]
    unfold cntI
    rw [List.map_append, List.sum_append]
    have : l.getD i z47 = l[i] := by rw [List.getD_eq_getElem?_getD, List.getElem?_eq_getElem hi]; rfl
    rw [this]
    simp [covI]
theorem bz_busy {l : List S47} {us : List Int} (hc : ∀ j, us.getD j 0 = cntI l j) : ∀ t, bzR l t = busyF us t
  | 0 => rfl
  | t + 1 => by
    rw [bzR, busyF, bz_busy hc t, cntR_take l t _ (Nat.le_refl _), List.take_length, hc]
end Go.Proofs.Ytpjobcnfjpbaeaa.N

namespace Go.Proofs.Ytpjobcnfjpbaeaa.N
open Go.RowKit Go.Proofs.YtpjobcnfjpbaeaaW.PrintWords Go.Proofs.YtpjobcnfjpbaeaaW.PrintLast Go.Proofs.YtpjobcnfjpbaeaaW.PrintMore
open Go.Proofs.Ytpjobcnfjpbaeaa.PA Go.Proofs.Ytpjobcnfjpbaeaa.M Go.Proofs.Ytpjobcnfjpbaeaa.A
theorem bookings_take (l : List S47) : turndownlaw08_bookings.f l = some (l.take 41) := by
  unfold turndownlaw08_bookings.f mn
  have hle : (l.take 41).length ≤ 41 := by rw [List.length_take]; omega
  by_cases h1 : 41 < (l.length : Int)
  · rw [if_pos h1, if_pos (by omega), if_pos (by omega)]
    simp only [Option.bind_some]
    rw [if_pos (by simp; omega)]
    rfl
  · rw [if_neg h1, if_pos (by omega), if_pos (by omega)]
    simp only [Option.bind_some]
    rw [if_pos (by simp; omega)]
    simp only [List.nil_append]
    rw [List.take_of_length_le (by omega), List.take_of_length_le (by omega)]
theorem are_book (b : List S47) : areB b = bookB b := by
  cases hb : bookB b with
  | true =>
    simp only [bookB, okR, Bool.and_eq_true, List.all_eq_true, decide_eq_true_eq] at hb
    refine areB_iff.2 ⟨hb.2, fun x hx => ?_⟩
    have := hb.1 x hx
    omega
  | false =>
    cases ha : areB b with
    | false => rfl
    | true =>
      exfalso
      obtain ⟨h1, h2⟩ := areB_iff.1 ha
      have : bookB b = true := by
        simp only [bookB, okR, Bool.and_eq_true, List.all_eq_true, decide_eq_true_eq]
        refine ⟨fun x hx => ?_, h1⟩
        have := h2 x hx
        omega
      rw [hb] at this
      cases this
theorem assigns_pure (l : List S47) : ∃ k, turndownlaw08_RoomsAssigns.f k l = some true := by
  refine Ev.rounds ?_
  unfold turndownlaw08_RoomsAssigns.f
  rw [bookings_take]
  simp only [Option.bind_some]
  obtain ⟨b, hb⟩ : ∃ b, l.take 41 = b := ⟨_, rfl⟩
  rw [hb]
  have hbl : b.length ≤ 1000 := by rw [← hb, List.length_take]; omega
  have hbk : Ev (fun k => turndownref08_Bookings.f k b) (bookB b) := by
    have := bookings_ev b hbl b.length 0 (by omega)
    simpa [bookB, turndownref08_Bookings.f] using this
  cases hc : bookB b with
  | true =>
    have hare : areB b = true := (are_book b).trans hc
    obtain ⟨h40, hx⟩ := areB_iff.1 hare
    have hB : Bks b := fun i h0 h1 => by
      have := hx _ (mem_getD (show i.toNat < b.length by omega))
      exact ⟨this.1, this.2.1, this.2.2.1⟩
    have hB0 : ∀ i, i < b.length → 0 ≤ (b.getD i z47).f0 ∧ (b.getD i z47).f0 < 60 := fun i hi => by
      have := hx _ (mem_getD hi)
      omega
    obtain ⟨us, hu, hcu, hev⟩ := used_ev (xs := b) (n := 60) (by omega) (by omega) (fun x hx' => by have := hx x hx'; omega)
    have hbusy : Ev (fun k => rooms_Busiest.f k b) ((busyF us us.length).1, (busyF us us.length).2, 0) := by
      unfold rooms_Busiest.f busiestF
      rw [hare]
      simp only [if_true]
      refine hev.bind ?_
      exact Ev.now _
    have hrb := bz_ev hbl
    rw [bz_busy hcu 60, ← hu] at hrb
    have hra := asg_ev hbl hB hB0
    have hass : rooms_Assign.f b = some ((assignF b (ordG b)).2, ((assignF b (ordG b)).1.length : Int), 0) := by
      unfold rooms_Assign.f
      rw [hare, if_pos rfl]
    have hol : (assignF b (ordG b)).2.length = b.length := by
      unfold assignF
      rw [(foldA_len (ordG b) _).1, List.length_replicate]
    have hints : Ev (fun k => turndownlaw08_ints.f k (assignF b (ordG b)).2 (assignF b (ordG b)).2) true := by
      have := ints_ev (assignF b (ordG b)).2 (by omega) (assignF b (ordG b)).2.length 0 (by omega)
      refine Ev.congr (fun k => ?_) this
      unfold turndownlaw08_ints.f
      rw [if_pos rfl]
      rfl
    rw [hass]
    simp only [Option.bind_some]
    rw [hc] at hbk
    refine hbusy.bind ?_
    refine hbk.bind ?_
    simp only [if_true]
    refine hra.bind ?_
    refine hrb.bind ?_
    refine hints.bind ?_
    simp only [if_true]
    exact Ev.now _
  | false =>
    have hare : areB b = false := (are_book b).trans hc
    have hass : rooms_Assign.f b = some ([], 0, 2) := by
      unfold rooms_Assign.f
      rw [hare]
      rfl
    have hbusy : Ev (fun k => rooms_Busiest.f k b) (0, 0, 2) := by
      unfold rooms_Busiest.f busiestF
      rw [hare]
      exact Ev.now _
    rw [hass]
    simp only [Option.bind_some]
    rw [hc] at hbk
    refine hbusy.bind ?_
    refine hbk.bind ?_
    exact Ev.now _
end Go.Proofs.Ytpjobcnfjpbaeaa.N

namespace Go.Proofs.Ytpjobcnfjpbaeaa.A
open Go.RowKit Go.Proofs.YtpjobcnfjpbaeaaW.PrintWords Go.Proofs.YtpjobcnfjpbaeaaW.PrintLast Go.Proofs.YtpjobcnfjpbaeaaW.PrintMore
open Go.Proofs.Ytpjobcnfjpbaeaa.PA Go.Proofs.Ytpjobcnfjpbaeaa.M
theorem assigns_walk (A : Option Addr) (c : Nat) (l : List S47) (w : World) (hr : Kd.C k47 w A l.length l) (hc : l.length ≤ c)
    (_hw : ∀ x ∈ l, (Lit.int .i64 x.f0).wf = true ∧ (Lit.int .i64 x.f1).wf = true ∧ (Lit.int .i64 x.f2).wf = true) :
    Calls Try.prog 9 #[.slice A l.length c] w fun e w' => e = .returned (.bool true) ∧ Below w.heap.size w w' := by
  obtain ⟨k, hk⟩ := N.assigns_pure l
  exact turndownlaw08_RoomsAssigns.calls k A c l true w hr hc hk
end Go.Proofs.Ytpjobcnfjpbaeaa.A

namespace Go.Proofs.Ytpjobcnfjpbaeaa.E
open Go.ChangeShapes Go.WideShapes Go.ChangeAt Go.RowKit Go.Deep
open Go.Proofs.YtpjobcnfjpbaeaaW.PrintWords Go.Proofs.YtpjobcnfjpbaeaaW.PrintLast Go.Proofs.YtpjobcnfjpbaeaaW.PrintMore
open Go.Proofs.Ytpjobcnfjpbaeaa.PA
variable {H : Type} {enc : TypeId × Value → H}
theorem open_int3 {W : World} {fuel : Nat} {cs : List Value} {x : DataW H × List MemPlace} (h : DataW.trod enc Try.prog W 0 (fun _ => true) true fuel 3 cs = some x) : ∃ n, cs = [.int .i64 n] ∧ x = (.lit (.int .i64 n), []) ∧ (Lit.int .i64 n).wf = true :=
  DataW.trod_int Try.underlying3 h
theorem len3 : ∀ {l : List Value}, l.length = 3 → ∃ a b c, l = [a, b, c]
  | [a, b, c], _ => ⟨a, b, c, rfl⟩
  | [], h => by simp at h
  | [_], h => by simp at h
  | [_, _], h => by simp at h
  | _ :: _ :: _ :: _ :: _, h => by simp at h
instance : Inhabited S47 := ⟨z47⟩
theorem open_bks {W : World} {a : Option Addr} {len cap : Nat} {d : DataW H} {p : List MemPlace} (h : DataW.Trod enc Try.prog W 0 (fun _ => true) true 22 (.slice a len cap) d p) :
    ∃ xs : List S47, xs.length = len ∧ len ≤ cap ∧ Kd.C k47 W a len xs ∧ ∀ x ∈ xs, (Lit.int .i64 x.f0).wf = true ∧ (Lit.int .i64 x.f1).wf = true ∧ (Lit.int .i64 x.f2).wf = true := by
  obtain ⟨fuel, hf⟩ := h
  have e3 : Try.prog.cellsOf 47 = 3 := by kernel_rfl
  have e1 : Try.prog.cellsOf 3 = 1 := by kernel_rfl
  rcases open_slice Try.underlying22 hf with ⟨hcs, _⟩ | ⟨x, l, c, m, n, D, Pl, hcs, _, hl, hm, hmm, _, hel⟩
  · simp [Value.cells] at hcs
    obtain ⟨rfl, rfl, rfl⟩ := hcs
    exact ⟨[], rfl, Nat.le_refl _, ⟨rfl, by omega, fun h => by omega⟩, fun x hx => by simp at hx⟩
  · simp [Value.cells] at hcs
    obtain ⟨rfl, rfl, rfl⟩ := hcs
    simp only [if_true] at hmm
    subst hmm
    have key : ∀ i, i < m → ∃ s : S47, (W.cell? (x.add (i * 3)) = some (.int .i64 s.f0) ∧ W.cell? (x.add (i * 3 + 1)) = some (.int .i64 s.f1) ∧ W.cell? (x.add (i * 3 + 2)) = some (.int .i64 s.f2)) ∧ ((Lit.int .i64 s.f0).wf = true ∧ (Lit.int .i64 s.f1).wf = true ∧ (Lit.int .i64 s.f2).wf = true) := by
      intro i hi
      obtain ⟨cs', h1, h2⟩ := hel i hi
      rw [e3] at h1
      obtain ⟨_, hlen, hcell⟩ := World.cells?_some h1
      obtain ⟨y0, y1, y2, q, _, _, g0, g1, g2⟩ := trod_struct3 Try.underlying47 h2
      obtain ⟨c0, c1, c2, rfl⟩ := len3 hlen
      obtain ⟨n0, q0, _, w0⟩ := open_int3 g0
      obtain ⟨n1, q1, _, w1⟩ := open_int3 g1
      obtain ⟨n2, q2, _, w2⟩ := open_int3 g2
      simp [e1] at q0 q1 q2
      subst q0 q1 q2
      refine ⟨⟨n0, n1, n2⟩, ⟨?_, ?_, ?_⟩, w0, w1, w2⟩
      · have := hcell 0 (by omega); rw [Go.Deep.add_add] at this; simpa using this
      · have := hcell 1 (by omega); rw [Go.Deep.add_add] at this; simpa using this
      · have := hcell 2 (by omega); rw [Go.Deep.add_add] at this; simpa using this
    obtain ⟨f, hfs⟩ := choose_lt (α := S47) key
    refine ⟨(List.range len).map f, by simp, hl, ⟨by simp, by unfold maxLen at hm; omega, fun _ => ⟨x, rfl, fun j p hp => ?_⟩⟩, fun s hs => ?_⟩
    · have hj : j < len := by have := (List.getElem?_eq_some_iff.1 hp).1; simpa using this
      simp [hj] at hp
      subst hp
      obtain ⟨⟨a0, a1, a2⟩, _⟩ := hfs j (by omega)
      refine ⟨[.int .i64 (f j).f0, .int .i64 (f j).f1, .int .i64 (f j).f2], rfl, k47_mk W (f j), fun i u hu => ?_⟩
      match i, hu with
      | 0, hu => simp at hu; subst hu; exact a0
      | 1, hu => simp at hu; subst hu; exact a1
      | 2, hu => simp at hu; subst hu; exact a2
      | i + 3, hu => simp at hu
    · simp only [List.mem_map, List.mem_range] at hs
      obtain ⟨i, hi, rfl⟩ := hs
      exact (hfs i (by omega)).2
end Go.Proofs.Ytpjobcnfjpbaeaa.E

namespace Go.Proofs.Ytpjobcnfjpbaeaa.E
open Go.ChangeShapes Go.WideShapes Go.ChangeAt Go.RowKit Go.Deep
open Go.Proofs.YtpjobcnfjpbaeaaW.PrintWords Go.Proofs.YtpjobcnfjpbaeaaW.PrintLast Go.Proofs.YtpjobcnfjpbaeaaW.PrintMore
open Go.Proofs.Ytpjobcnfjpbaeaa.PA
variable {H : Type} {enc : TypeId × Value → H}
theorem own : ownKnob Try.prog.godebug = none := by kernel_rfl
theorem laidOut : laidOutB Try.prog = true := by kernel_rfl
end Go.Proofs.Ytpjobcnfjpbaeaa.E

namespace Go.Proofs.Ytpjobcnfjpbaeaa.roomsAssigns
open Go.ChangeShapes Go.WideShapes Go.ChangeAt Go.RowKit
open Go.Proofs.Ytpjobcnfjpbaeaa.E
set_option maxRecDepth 100000 in
theorem lifted (os : Os) (started : os.Started) (H : Type) (enc : TypeId × Value → H) :
    ReturnsInHanded {} Try.checked os 9 .any (Rows.roomsAssignsSpec.pre6 enc Try.prog Try.f9 Rows.roomsAssignsRow.domain false) (Rows.roomsAssignsSpec.post enc Try.prog Try.f9 false true false false) := by
  refine returnsInHanded_of_change_sized (C := Try.checked) own started (by kernel_rfl) Try.func9
    (ChangeSpec.witness6 (enc := enc) (C := Try.checked) false ⟨#[], #[.slice none 0 0], []⟩ 8 (by kernel_rfl) (by kernel_rfl) (by kernel_rfl) (by kernel_rfl)) ?_
  intro W base args ds gs before hval0 hW hcnd hsz0 _
  have hval : ∀ (j : Nat) t v, Try.f9.params[j]? = some t → args[j]? = some v → Value.okWide Try.prog W .any base t v := hval0
  have hW' := hW
  obtain ⟨p, q, hA0, hV, rfl, hfz, hnd⟩ := hW
  have hA : DataW.TrodAll enc Try.prog W 0 (fun _ => true) true Try.f9.params.toList args.toList ds p := hA0
  rw [Try.params9] at hA hval
  obtain ⟨v0, vs0, d0, ds0, p0, q0, hargs, rfl, rfl, h0, r0⟩ := trodAll_cons hA
  obtain ⟨rfl, rfl, rfl⟩ := trodAll_nil r0
  obtain rfl : args = #[v0] := by cases args; simp_all
  obtain ⟨rfl, rfl⟩ := trodVars_none hV
  have k0 := h0
  have lt0 : ∀ x ∈ p0, x.block < W.heap.size := by obtain ⟨m, hm⟩ := k0; exact DataW.trod_lt m _ _ _ hm
  obtain ⟨a0, len0, cap0, rfl⟩ := okWide_slice Try.underlying22 (hval 0 22 v0 rfl rfl)
  obtain ⟨x0, rfl, y0, z0, w0⟩ := open_bks h0
  clear hA0 hval0 hsz0
  refine (Go.Proofs.Ytpjobcnfjpbaeaa.A.assigns_walk a0 cap0 x0 W z0 y0 w0).mono fun e W' ⟨he, bel⟩ => ?_
  subst he
  exact ⟨_, rfl, _, _, _, [], _, [], hW', trodAll_mk1 (shut_bool Try.underlying4 _), (trodAll_cons_mk (Below.trod laidOut (by kernel_rfl) (of_decide_eq_true (by kernel_rfl)) k0 bel lt0) trodAll_mk0), rfl, bel.frame _, fun h => by cases h⟩
theorem over : Rows.roomsAssignsRow.holds Try.pinned (OpenSpec.ofChange Rows.roomsAssignsSpec) :=
  OpenClaim.holds_of_wide 9 Try.f9 rfl rfl rfl rfl rfl rfl rfl ⟨rfl, rfl, rfl, rfl, rfl⟩ rfl rfl rfl rfl rfl (by kernel_rfl) Try.func9 (by kernel_rfl)
    (of_decide_eq_true (by kernel_rfl)) (by unfold Func.isWrapper; first | (rw [if_pos (by decide +kernel)]; kernel_rfl) | (rw [if_neg (by decide +kernel)]; exact ⟨rfl, rfl⟩))
    (fun os started H enc _ => lifted os started H enc)
theorem proved : Rows.RoomsAssignsSaid := over
end Go.Proofs.Ytpjobcnfjpbaeaa.roomsAssigns
namespace Go.Proofs.Ytpjobcnfjpbaeaa
theorem roomsAssigns_holds : Rows.RoomsAssignsSaid := roomsAssigns.proved
end Go.Proofs.Ytpjobcnfjpbaeaa
