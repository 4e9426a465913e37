/- For all strings, pairs of taps and lists of places the statement CodeMends holds: Go's function returns true and changes nothing that existed. -/
import Derived.Laws.IdiomStrings
import Derived.Lib.ConvBytes
import Derived.Test.YtcpojohpmcnnhaaRows
import Derived.WalkKit
import Derived.ProofKit
import Derived.OpenShut
import Derived.ShutString
import Derived.ChangeOld
import Derived.Below
import Derived.SizedLaws
import Derived.Deep.Slices
import Derived.Deep.Strs
import Derived.Lib.SmallJoins
import Derived.Test.YtcpojohpmcnnhaaZs9
set_option linter.unusedSimpArgs false
set_option linter.unusedVariables false

set_option linter.unusedVariables false
set_option linter.unusedSimpArgs false
namespace Go.Proofs.Ytcpojohpmcnnhaa.A
open Go.RowKit Go.Proofs.YtcpojohpmcnnhaaW.PrintWords Go.Proofs.YtcpojohpmcnnhaaW.PrintLast Go.Proofs.YtcpojohpmcnnhaaW.PrintMore
open Go.Proofs.Ytcpojohpmcnnhaa.PA
def BRow (w : World) (g : Nat) (L : List UInt8) : Prop := ∃ C : Array Value, w.heap[g]? = some (.cells C 5 (C.size, C.size + 1)) ∧ L.length ≤ C.size ∧ ∀ k, k < L.length → C[k]? = some (.int .u8 ((L.getD k 0).toNat : Int))
theorem BRow.cell {w : World} {g : Nat} {L : List UInt8} (h : BRow w g L) {k : Nat} (hk : k < L.length) : w.cell? ⟨g, k, none⟩ = some (.int .u8 ((L.getD k 0).toNat : Int)) := by
  obtain ⟨C, h1, h2, h3⟩ := h
  simp only [World.cell?, h1, Option.isSome_none, Bool.false_eq_true, if_false]
  exact h3 k hk
theorem BRow.frozen {w : World} {g : Nat} {L : List UInt8} (h : BRow w g L) {k : Nat} (hk : k < L.length) : w.frozen? ⟨g, k, none⟩ = false := by
  obtain ⟨C, h1, h2, h3⟩ := h
  simp only [World.frozen?, h1]
  simp; omega
theorem BRow.set {w : World} {g : Nat} {L : List UInt8} (h : BRow w g L) {k : Nat} (hk : k < L.length) (c : UInt8) : BRow (w.setCell ⟨g, k, none⟩ (.int .u8 (c.toNat : Int))) g (L.set k c) := by
  obtain ⟨C, h1, h2, h3⟩ := h
  refine ⟨C.setIfInBounds k (.int .u8 (c.toNat : Int)), ?_, by simpa using h2, fun j hj => ?_⟩
  · simp [World.setCell, Array.getElem?_modify, h1]
  · rw [List.length_set] at hj
    by_cases e : k = j
    · subst e
      simp [Array.getElem?_setIfInBounds, List.getD_eq_getElem?_getD, hk]
      omega
    · rw [Array.getElem?_setIfInBounds_ne (by omega)]
      rw [h3 j hj]
      simp [List.getD_eq_getElem?_getD, e]
theorem BRow.size {w : World} {g : Nat} {L : List UInt8} (h : BRow w g L) : g < w.heap.size := by
  obtain ⟨C, h1, _⟩ := h
  exact blk_lt h1
theorem BRow.str {w : World} {g n cap : Nat} {L : List UInt8} (h : BRow w g L) (hn : L.length = n) : (convert 59 9 (.slice (some ⟨g, 0, none⟩) n cap)).run Try.prog w = .ok (.string ⟨L.toArray⟩) w := by
  rw [← strOf_u8s L]
  refine run_convert_bytes_arg w 59 5 Try.underlying59 Try.underlying5 g 0 n cap (u8s L) (by simp [u8s, hn]) (fun i hi => ?_) 9 Try.underlying9
  rw [Nat.zero_add, h.cell (by omega)]
  simp [u8s, List.getD_eq_getElem?_getD, show i < L.length by omega]
end Go.Proofs.Ytcpojohpmcnnhaa.A
namespace Go.Proofs.Ytcpojohpmcnnhaa.PA
open Go.RowKit Go.Proofs.YtcpojohpmcnnhaaW.PrintWords Go.Proofs.YtcpojohpmcnnhaaW.PrintLast Go.Proofs.YtcpojohpmcnnhaaW.PrintMore
end Go.Proofs.Ytcpojohpmcnnhaa.PA

set_option linter.unusedVariables false
set_option linter.unusedSimpArgs false
namespace Go.Proofs.Ytcpojohpmcnnhaa.L
open Go.RowKit Go.Proofs.YtcpojohpmcnnhaaW.PrintWords Go.Proofs.YtcpojohpmcnnhaaW.PrintLast Go.Proofs.YtcpojohpmcnnhaaW.PrintMore
open Go.Proofs.Ytcpojohpmcnnhaa.PA Go.Proofs.Ytcpojohpmcnnhaa.A
def BoolRow (w : World) (b : Nat) (l : List Bool) : Prop := w.heap[b]? = some (.cells (l.map Value.bool).toArray 60 (0, 0))
theorem BoolRow.set {w : World} {b : Nat} {l : List Bool} (h : BoolRow w b l) (k : Nat) (v : Bool) : BoolRow (w.setCell ⟨b, k, none⟩ (.bool v)) b (l.set k v) := by
  unfold BoolRow at *
  simp [World.setCell, Array.getElem?_modify, h]
theorem BoolRow.cell {w : World} {b : Nat} {l : List Bool} (h : BoolRow w b l) {k : Nat} (hk : k < l.length) : w.cell? ⟨b, k, none⟩ = some (.bool (l.getD k false)) := by
  unfold BoolRow at h
  unfold World.cell?
  simp only
  rw [h]
  simp [List.getD_eq_getElem?_getD, hk]
theorem BoolRow.frozen {w : World} {b : Nat} {l : List Bool} (h : BoolRow w b l) (k : Nat) : w.frozen? ⟨b, k, none⟩ = false := Lib.frozen_of_heap h k
theorem BoolRow.move {w w' : World} {b : Nat} {l : List Bool} (h : BoolRow w b l) (he : w'.heap[b]? = w.heap[b]?) : BoolRow w' b l := he.trans h
theorem BoolRow.size {w : World} {b : Nat} {l : List Bool} (h : BoolRow w b l) : b < w.heap.size := by
  unfold BoolRow at h
  exact (Array.getElem?_eq_some_iff.1 h).1
theorem BRow.move {w w' : World} {g : Nat} {l : List UInt8} (h : BRow w g l) (he : w'.heap[g]? = w.heap[g]?) : BRow w' g l := by
  obtain ⟨C, h1, h2, h3⟩ := h
  exact ⟨C, he.trans h1, h2, h3⟩
theorem dist_len (p q : List UInt8) : ∀ k, 0 ≤ distB p q k ∧ distB p q k ≤ k
  | 0 => ⟨Int.le_refl _, Int.le_refl _⟩
  | k + 1 => by
    have ih := dist_len p q k
    rw [distB]
    split <;> omega
theorem zero60 : Try.zeroCells60 = ((List.replicate 200 false).map Value.bool).toArray := by kernel_rfl
theorem mod_c {x n r : Int} (h : turndownlaw06_mod.f x n = some r) (w : World) : Calls Try.prog 39 #[.int .i64 x, .int .i64 n] w fun e w' => e = .returned (.int .i64 r) ∧ Below w.heap.size w w' :=
  (turndownlaw06_mod.calls x n r w h).mono (by rintro e w' ⟨rfl, nd, rfl⟩; exact ⟨rfl, pw_below_drewN (Below.refl _ _) nd⟩)
theorem mend1_on {s : MendT} {k : Nat} (h : s.d.getD k false = true) : mend1 s k = s := by unfold mend1; rw [if_pos h]
theorem mend1_off {s : MendT} {k : Nat} (h : s.d.getD k false = false) : mend1 s k = ⟨s.b.set k (flipU (s.b.getD k 0)), s.d.set k true, s.n + 1⟩ := by unfold mend1; rw [if_neg (by rw [h]; simp)]
set_option maxHeartbeats 8000000 in
set_option maxRecDepth 100000 in
theorem mends_c (s : ByteArray) (x y : Int) (A : Option Addr) (c : Nat) (l : List Int) (w : World) (hr : Kd.C (Kd.int .i64) w A l.length l) (k : Nat)
    (m : ByteArray) (hm : turndownlaw06_bits.f k s 64 = some m) (hms : m.size ≤ 64) (g0 h0 : Int) (hg0 : turndownlaw06_mod.f x 15 = some g0) (hh0 : turndownlaw06_mod.f y 15 = some h0)
    (cs : ByteArray) (hC : code_Card.f k m (wrap64 (1 + g0)) (wrap64 (1 + h0)) = some (cs, 0)) (hcz : cs.size = 2 * m.size + 6) (hcb : bitsB cs.data.toList = true) (fr : Int) (hF : code_Free.f (wrap64 (1 + g0)) (wrap64 (1 + h0)) = some (fr, 0)) (hfr : 1 ≤ fr ∧ fr ≤ 8)
    (q : Nat) (hq : q = min l.length 40) (ks : Nat → Nat) (hks : ∀ i, i < q → turndownlaw06_mod.f (l.getD i 0) (cs.size : Int) = some (ks i : Int)) (hkl : ∀ i, ks i < cs.size)
    (S : ByteArray) (n : Int) (hRD : code_Read.f k ⟨(mendL cs.data.toList ks q).b.toArray⟩ (wrap64 (1 + g0)) (wrap64 (1 + h0)) = some (S, n, 0)) (hSz : S.size = m.size)
    (hle : n ≤ ((mendL cs.data.toList ks q).n : Int)) (heq : 2 * ((mendL cs.data.toList ks q).n : Int) ≥ fr ∨ (S = m ∧ n = ((mendL cs.data.toList ks q).n : Int)))
    (haw : turndownlaw06_awake.f k = some true) :
    Calls Try.prog 12 #[.string s, .agg #[.int .i64 x, .int .i64 y], .slice A l.length c] w fun e w' => e = .returned (.bool true) ∧ Below w.heap.size w w' := by
  have HB := Aside0.mk (Below.refl w.heap.size w)
  have HM := Aside0.mk hm
  have HG := Aside0.mk hg0
  have HH := Aside0.mk hh0
  have HC := Aside0.mk hC
  have HF := Aside0.mk hF
  have HRD := Aside0.mk hRD
  have HAW := Aside0.mk haw
  have HKS := Aside0.mk hks
  have HR := Aside0.mk hr
  have HLE := Aside0.mk hle
  have HEQ := Aside0.mk heq
  have HKL := Aside0.mk hkl
  have HCB := Aside0.mk hcb
  clear hm hg0 hh0 hC hF hRD haw hks hr hle heq hkl hcb
  have z1 : (cs.size : Int) = 2 * (m.size : Int) + 6 := by omega
  have HCZ := Aside0.mk hcz
  clear hcz
  go_enter Try.func12, Try.ntmps12
  go_upto_region 2 with (first | ((with_reducible refine gate_dst (N := 4) rfl ?_); (try (refine gate_guard (by rfl) ?_; dsimp only)); refine box_event ?hg (N := 4) ?hd (cs := #[.int .i64 x, .int .i64 y]) (t := 38) ?hr ?_; (case hd => rfl); (case hg => rfl); (case hr => first | (go_simp; done) | (go_simp; rfl)); intro gb hg wb hbox hb; have n0_ := Aside0.mk (below_step (by repeat (first | (with_reducible first | exact HB.out | apply below_alloc | apply pw_below_drewN | apply below_drew1) | exact HB.out)) hb); have n1_ := Aside0.mk hbox; have n2_ := Aside0.mk ((by rw [hg]; exact (below_size (by repeat (first | (with_reducible first | exact HB.out | apply below_alloc | apply pw_below_drewN | apply below_drew1) | exact HB.out)))) : w.heap.size ≤ gb); clear HB; have HB := n0_; have BK := n1_; have GE := n2_; clear n0_ n1_ n2_; clear hb hbox hg) | (go_at_call 41; (with_reducible refine (turndownlaw06_bits.calls k s 64 m _ HM.out).mono ?_); rintro e wn ⟨rfl, hb⟩; have n0_ := Aside0.mk (blk_below (g := gb) (o := .cells #[.int .i64 x, .int .i64 y] 38 (0, 0)) (by (with_reducible repeat (first | refine blk_drewN ?_ _ | refine blk_drew ?_ | refine blk_alloc ?_ _)); exact BK.out) hb); have n1_ := Aside0.mk (below_step (by repeat (first | (with_reducible first | exact HB.out | apply below_alloc | apply pw_below_drewN | apply below_drew1 | refine below_set ?_ GE.out) | exact HB.out)) hb); clear BK; clear HB; have BK := n0_; have HB := n1_; clear n0_ n1_; (try clear hb)))
  repeat (go_quiet (first | ((with_reducible refine gate_dst (N := 4) rfl ?_); (try (refine gate_guard (by rfl) ?_; dsimp only)); refine box_event ?hg (N := 4) ?hd (cs := #[.int .i64 x, .int .i64 y]) (t := 38) ?hr ?_; (case hd => rfl); (case hg => rfl); (case hr => first | (go_simp; done) | (go_simp; rfl)); intro gb hg wb hbox hb; have n0_ := Aside0.mk (below_step (by repeat (first | (with_reducible first | exact HB.out | apply below_alloc | apply pw_below_drewN | apply below_drew1) | exact HB.out)) hb); have n1_ := Aside0.mk hbox; have n2_ := Aside0.mk ((by rw [hg]; exact (below_size (by repeat (first | (with_reducible first | exact HB.out | apply below_alloc | apply pw_below_drewN | apply below_drew1) | exact HB.out)))) : w.heap.size ≤ gb); clear HB; have HB := n0_; have BK := n1_; have GE := n2_; clear n0_ n1_ n2_; clear hb hbox hg) | (go_at_call 41; (with_reducible refine (turndownlaw06_bits.calls k s 64 m _ HM.out).mono ?_); rintro e wn ⟨rfl, hb⟩; have n0_ := Aside0.mk (blk_below (g := gb) (o := .cells #[.int .i64 x, .int .i64 y] 38 (0, 0)) (by (with_reducible repeat (first | refine blk_drewN ?_ _ | refine blk_drew ?_ | refine blk_alloc ?_ _)); exact BK.out) hb); have n1_ := Aside0.mk (below_step (by repeat (first | (with_reducible first | exact HB.out | apply below_alloc | apply pw_below_drewN | apply below_drew1 | refine below_set ?_ GE.out) | exact HB.out)) hb); clear BK; clear HB; have BK := n0_; have HB := n1_; clear n0_ n1_; (try clear hb))); go_upto_region 2 with (first | ((with_reducible refine gate_dst (N := 4) rfl ?_); (try (refine gate_guard (by rfl) ?_; dsimp only)); refine box_event ?hg (N := 4) ?hd (cs := #[.int .i64 x, .int .i64 y]) (t := 38) ?hr ?_; (case hd => rfl); (case hg => rfl); (case hr => first | (go_simp; done) | (go_simp; rfl)); intro gb hg wb hbox hb; have n0_ := Aside0.mk (below_step (by repeat (first | (with_reducible first | exact HB.out | apply below_alloc | apply pw_below_drewN | apply below_drew1) | exact HB.out)) hb); have n1_ := Aside0.mk hbox; have n2_ := Aside0.mk ((by rw [hg]; exact (below_size (by repeat (first | (with_reducible first | exact HB.out | apply below_alloc | apply pw_below_drewN | apply below_drew1) | exact HB.out)))) : w.heap.size ≤ gb); clear HB; have HB := n0_; have BK := n1_; have GE := n2_; clear n0_ n1_ n2_; clear hb hbox hg) | (go_at_call 41; (with_reducible refine (turndownlaw06_bits.calls k s 64 m _ HM.out).mono ?_); rintro e wn ⟨rfl, hb⟩; have n0_ := Aside0.mk (blk_below (g := gb) (o := .cells #[.int .i64 x, .int .i64 y] 38 (0, 0)) (by (with_reducible repeat (first | refine blk_drewN ?_ _ | refine blk_drew ?_ | refine blk_alloc ?_ _)); exact BK.out) hb); have n1_ := Aside0.mk (below_step (by repeat (first | (with_reducible first | exact HB.out | apply below_alloc | apply pw_below_drewN | apply below_drew1 | refine below_set ?_ GE.out) | exact HB.out)) hb); clear BK; clear HB; have BK := n0_; have HB := n1_; clear n0_ n1_; (try clear hb))))
  (try simp only [Act.put, List.setIfInBounds_toArray, List.set_cons_zero, List.set_cons_succ])
  have hz0 : wn.cell? ⟨gb, 0, none⟩ = some (.int .i64 x) := (blk_cell BK.out 0).trans rfl
  have hz1 : wn.cell? ⟨gb, 1, none⟩ = some (.int .i64 y) := (blk_cell BK.out 1).trans rfl
  have hy0 := blk_frozen BK.out 0
  have hy1 := blk_frozen BK.out 1
  go_upto_region 7 with (first | (go_at_call 39; (with_reducible refine (turndownlaw06_mod.calls x 15 g0 _ HG.out).mono ?_); rintro e wn ⟨rfl, ⟨nd, rfl⟩⟩; (try first | exact ⟨rfl, _, World.drewN_drewN _ _ _⟩ | exact ⟨rfl, _, Eq.trans (World.drewN_drewN _ _ _) (congrArg (World.drewN _) (Nat.add_assoc _ _ _))⟩)) | (go_at_call 39; (with_reducible refine (turndownlaw06_mod.calls y 15 h0 _ HH.out).mono ?_); rintro e wn ⟨rfl, ⟨nd, rfl⟩⟩; (try first | exact ⟨rfl, _, World.drewN_drewN _ _ _⟩ | exact ⟨rfl, _, Eq.trans (World.drewN_drewN _ _ _) (congrArg (World.drewN _) (Nat.add_assoc _ _ _))⟩)) | (go_at_call 30; (with_reducible refine (code_Card.calls k m (wrap64 (1 + g0)) (wrap64 (1 + h0)) cs 0 _ HC.out).mono ?_); rintro e wn ⟨rfl, hb⟩; have n0_ := Aside0.mk (blk_below (g := gb) (o := .cells #[.int .i64 x, .int .i64 y] 38 (0, 0)) (by (with_reducible repeat (first | refine blk_drewN ?_ _ | refine blk_drew ?_ | refine blk_alloc ?_ _)); exact BK.out) hb); have n1_ := Aside0.mk (below_step (by repeat (first | (with_reducible first | exact HB.out | apply below_alloc | apply pw_below_drewN | apply below_drew1 | refine below_set ?_ GE.out) | exact HB.out)) hb); clear BK; clear HB; have BK := n0_; have HB := n1_; clear n0_ n1_; (try clear hb)) | (go_at_call 36; (with_reducible refine (code_Free.calls (wrap64 (1 + g0)) (wrap64 (1 + h0)) fr 0 _ HF.out).mono ?_); rintro e wn ⟨rfl, hb⟩; have n0_ := Aside0.mk (blk_below (g := gb) (o := .cells #[.int .i64 x, .int .i64 y] 38 (0, 0)) (by (with_reducible repeat (first | refine blk_drewN ?_ _ | refine blk_drew ?_ | refine blk_alloc ?_ _)); exact BK.out) hb); have n1_ := Aside0.mk (below_step (by repeat (first | (with_reducible first | exact HB.out | apply below_alloc | apply pw_below_drewN | apply below_drew1 | refine below_set ?_ GE.out) | exact HB.out)) hb); clear BK; clear HB; have BK := n0_; have HB := n1_; clear n0_ n1_; (try clear hb)))
  repeat (go_quiet (first | (go_at_call 39; (with_reducible refine (turndownlaw06_mod.calls x 15 g0 _ HG.out).mono ?_); rintro e wn ⟨rfl, ⟨nd, rfl⟩⟩; (try first | exact ⟨rfl, _, World.drewN_drewN _ _ _⟩ | exact ⟨rfl, _, Eq.trans (World.drewN_drewN _ _ _) (congrArg (World.drewN _) (Nat.add_assoc _ _ _))⟩)) | (go_at_call 39; (with_reducible refine (turndownlaw06_mod.calls y 15 h0 _ HH.out).mono ?_); rintro e wn ⟨rfl, ⟨nd, rfl⟩⟩; (try first | exact ⟨rfl, _, World.drewN_drewN _ _ _⟩ | exact ⟨rfl, _, Eq.trans (World.drewN_drewN _ _ _) (congrArg (World.drewN _) (Nat.add_assoc _ _ _))⟩)) | (go_at_call 30; (with_reducible refine (code_Card.calls k m (wrap64 (1 + g0)) (wrap64 (1 + h0)) cs 0 _ HC.out).mono ?_); rintro e wn ⟨rfl, hb⟩; have n0_ := Aside0.mk (blk_below (g := gb) (o := .cells #[.int .i64 x, .int .i64 y] 38 (0, 0)) (by (with_reducible repeat (first | refine blk_drewN ?_ _ | refine blk_drew ?_ | refine blk_alloc ?_ _)); exact BK.out) hb); have n1_ := Aside0.mk (below_step (by repeat (first | (with_reducible first | exact HB.out | apply below_alloc | apply pw_below_drewN | apply below_drew1 | refine below_set ?_ GE.out) | exact HB.out)) hb); clear BK; clear HB; have BK := n0_; have HB := n1_; clear n0_ n1_; (try clear hb)) | (go_at_call 36; (with_reducible refine (code_Free.calls (wrap64 (1 + g0)) (wrap64 (1 + h0)) fr 0 _ HF.out).mono ?_); rintro e wn ⟨rfl, hb⟩; have n0_ := Aside0.mk (blk_below (g := gb) (o := .cells #[.int .i64 x, .int .i64 y] 38 (0, 0)) (by (with_reducible repeat (first | refine blk_drewN ?_ _ | refine blk_drew ?_ | refine blk_alloc ?_ _)); exact BK.out) hb); have n1_ := Aside0.mk (below_step (by repeat (first | (with_reducible first | exact HB.out | apply below_alloc | apply pw_below_drewN | apply below_drew1 | refine below_set ?_ GE.out) | exact HB.out)) hb); clear BK; clear HB; have BK := n0_; have HB := n1_; clear n0_ n1_; (try clear hb))); go_upto_region 7 with (first | (go_at_call 39; (with_reducible refine (turndownlaw06_mod.calls x 15 g0 _ HG.out).mono ?_); rintro e wn ⟨rfl, ⟨nd, rfl⟩⟩; (try first | exact ⟨rfl, _, World.drewN_drewN _ _ _⟩ | exact ⟨rfl, _, Eq.trans (World.drewN_drewN _ _ _) (congrArg (World.drewN _) (Nat.add_assoc _ _ _))⟩)) | (go_at_call 39; (with_reducible refine (turndownlaw06_mod.calls y 15 h0 _ HH.out).mono ?_); rintro e wn ⟨rfl, ⟨nd, rfl⟩⟩; (try first | exact ⟨rfl, _, World.drewN_drewN _ _ _⟩ | exact ⟨rfl, _, Eq.trans (World.drewN_drewN _ _ _) (congrArg (World.drewN _) (Nat.add_assoc _ _ _))⟩)) | (go_at_call 30; (with_reducible refine (code_Card.calls k m (wrap64 (1 + g0)) (wrap64 (1 + h0)) cs 0 _ HC.out).mono ?_); rintro e wn ⟨rfl, hb⟩; have n0_ := Aside0.mk (blk_below (g := gb) (o := .cells #[.int .i64 x, .int .i64 y] 38 (0, 0)) (by (with_reducible repeat (first | refine blk_drewN ?_ _ | refine blk_drew ?_ | refine blk_alloc ?_ _)); exact BK.out) hb); have n1_ := Aside0.mk (below_step (by repeat (first | (with_reducible first | exact HB.out | apply below_alloc | apply pw_below_drewN | apply below_drew1 | refine below_set ?_ GE.out) | exact HB.out)) hb); clear BK; clear HB; have BK := n0_; have HB := n1_; clear n0_ n1_; (try clear hb)) | (go_at_call 36; (with_reducible refine (code_Free.calls (wrap64 (1 + g0)) (wrap64 (1 + h0)) fr 0 _ HF.out).mono ?_); rintro e wn ⟨rfl, hb⟩; have n0_ := Aside0.mk (blk_below (g := gb) (o := .cells #[.int .i64 x, .int .i64 y] 38 (0, 0)) (by (with_reducible repeat (first | refine blk_drewN ?_ _ | refine blk_drew ?_ | refine blk_alloc ?_ _)); exact BK.out) hb); have n1_ := Aside0.mk (below_step (by repeat (first | (with_reducible first | exact HB.out | apply below_alloc | apply pw_below_drewN | apply below_drew1 | refine below_set ?_ GE.out) | exact HB.out)) hb); clear BK; clear HB; have BK := n0_; have HB := n1_; clear n0_ n1_; (try clear hb))))
  (try simp only [Act.put, List.setIfInBounds_toArray, List.set_cons_zero, List.set_cons_succ])
  obtain ⟨N, hN⟩ : ∃ N, cs.size = N := ⟨_, rfl⟩
  have hN200 : N ≤ 134 := by have := HCZ.out; omega
  have hNpos : 6 ≤ N := by have := HCZ.out; omega
  have hconv := run_bytes_of_string (P := Try.prog) wn 9 59 5 cs Try.underlying9 Try.underlying59 Try.underlying5
  obtain ⟨cap, hcap⟩ : ∃ cap, grownCap wn cs.size 0 5 = cap := ⟨_, rfl⟩
  rw [hcap] at hconv
  obtain ⟨w1, hw1⟩ : ∃ w1, (wn.drew.alloc (.cells (bytesRow cs cap) 5 ((bytesRow cs cap).size, (bytesRow cs cap).size + 1))) = w1 := ⟨_, rfl⟩
  rw [hw1] at hconv
  obtain ⟨L, hL⟩ : ∃ L, cs.data.toList = L := ⟨_, rfl⟩
  have hLl : L.length = cs.size := by rw [← hL]; exact data_len cs
  have hBW : Below w.heap.size w w1 := by rw [← hw1]; exact ((HB.out).drew).alloc (show w.heap.size ≤ wn.heap.size from HB.out.size) _
  have hrow : BRow w1 wn.heap.size L := by
    refine ⟨bytesRow cs cap, by rw [← hw1]; exact blk_new _ _, by rw [hLl]; unfold bytesRow; rw [Array.size_append, Array.size_map]; exact Nat.le_add_right _ _, fun j hj => ?_⟩
    have hks : j < cs.data.size := by rw [hLl] at hj; exact hj
    rw [bytesRow_at cs cap j hks, ← hL, List.getD_eq_getElem?_getD, Array.getElem?_toList, Array.getElem?_eq_getElem hks]
    rfl
  have hge : w.heap.size ≤ wn.heap.size := HB.out.size
  obtain ⟨g, hg⟩ : ∃ g, wn.heap.size = g := ⟨_, rfl⟩
  rw [hg] at hconv hrow hge
  rw [hN] at hconv hLl z1
  have HROW := Lib.hid hrow
  have HBW := Lib.hid hBW
  clear hrow hBW BK HB hcap hw1 hg hz0 hz1 hy0 hy1
  go_upto_region 10 with fail
  obtain ⟨db, hdb⟩ : ∃ db, w1.heap.size = db := ⟨_, rfl⟩
  obtain ⟨w2, hw2⟩ : ∃ w2, w1.alloc (Obj.cells Try.zeroCells60 60) = w2 := ⟨_, rfl⟩
  have hgs : g < w1.heap.size := HROW.out.size
  have hD2 : BoolRow w2 db (mendL L ks 0).d := by
    rw [← hw2, ← hdb]
    show (w1.alloc (Obj.cells Try.zeroCells60 60)).heap[w1.heap.size]? = _
    rw [heap_alloc_new, zero60]
    rfl
  have hR2 : BRow w2 g (mendL L ks 0).b := by
    rw [← hw2]
    exact BRow.move HROW.out (Lib.alloc_old w1 _ _ hgs)
  have hB2 : Below w.heap.size w w2 := by rw [← hw2]; exact HBW.out.alloc HBW.out.size _
  rw [hw2, hdb]
  have hdge : w.heap.size ≤ db := by have := HBW.out.size; omega
  have hgd : g ≠ db := by omega
  rw [hN] at HKS HKL
  rw [hL] at HRD HLE HEQ HCB
  have hs3 : (S.size : Int) = (m.size : Int) := by omega
  have hMO : ∀ i, MendOk L (mendL L ks i) := fun i => mend_ok (by omega) (fun k hk => by
    have := bit_getD HCB.out k
    rw [List.getD_eq_getElem?_getD, List.getElem?_eq_getElem hk] at this ⊢
    exact this) (fun i => by rw [hLl]; exact HKL.out i) i
  have HMO := Lib.hid hMO
  have HD2 := Lib.hid hD2
  have HR2 := Lib.hid hR2
  have HB2 := Lib.hid hB2
  have HRC : Hid (∀ W, Below w.heap.size w W → ∀ i, i < l.length → ∃ ad, A = some ad ∧ W.cell? (ad.add i) = some (.int .i64 (l.getD i 0))) := Lib.hid (fun W hW i hi => by
    obtain ⟨ad, vx, e1, e2, e3⟩ := at_int HR.out hW i hi
    exact ⟨ad, e1, by rw [List.getD_eq_getElem?_getD, e2.out]; exact e3⟩)
  have HLL := Lib.hid hLl
  have HS3 := Lib.hid hs3
  clear hconv z1 hs3
  clear hD2 hR2 hB2 hMO HROW HBW hw2 HCB hdb hgs HR hLl hL
  go_wp2_with fail
  go_loopw [15, 17, 18] (fun v15 v17 _ wr => ∃ i : Nat, v17 = .int .i64 (i : Int) ∧ v15 = .int .i64 ((mendL L ks i).n : Int) ∧ i ≤ q ∧ Hid (BRow wr g (mendL L ks i).b) ∧ Hid (BoolRow wr db (mendL L ks i).d) ∧ Hid (R.Keeps [g, db] w2 wr)) (fun _ v17 _ _ => q - (intOf v17).toNat)
  case atStart => exact ⟨0, rfl, rfl, Nat.zero_le _, HR2, HD2, Lib.hid (R.Keeps.refl _ _)⟩
  case round =>
    rename World => wr
    obtain ⟨i, rfl, rfl, hi, HRr, HDr, HK⟩ := hrel
    have HBr : Hid (Below w.heap.size w wr) := Lib.hid (HB2.out.trans (HK.out.to_below (B := w.heap.size) HB2.out.size (fun k hk => by simp at hk; omega)))
    by_cases hiq : i < q
    · have hil : i < l.length := by omega
      have hil' : (i : Int) < (l.length : Int) := by omega
      have hi40 : (i : Int) < 40 := by omega
      have hi0 : (0 : Int) ≤ (i : Int) := by omega
      obtain ⟨ad, hA, hcell⟩ := HRC.out wr HBr.out i hil
      subst hA
      have hkN := HKL.out i
      have hmo := HMO.out i
      have hnx : mendL L ks (i + 1) = mend1 (mendL L ks i) (ks i) := rfl
      have HMC := Lib.hid (fun W => mod_c (HKS.out i hiq) W)
      obtain ⟨k1, hk1⟩ : ∃ k1, ks i = k1 := ⟨_, rfl⟩
      rw [hk1] at hkN hnx HMC
      obtain ⟨st, hst⟩ : ∃ st, mendL L ks i = st := ⟨_, rfl⟩
      rw [hst] at hmo hnx HRr HDr ⊢
      obtain ⟨xi, hxi⟩ : ∃ xi, l.getD i 0 = xi := ⟨_, rfl⟩
      rw [hxi] at hcell HMC
      have hlb := hmo.lb
      have hld := hmo.ld
      rw [HLL.out] at hlb
      have hbit := hmo.bits k1 (by rw [HLL.out]; exact hkN)
      have hnn : (st.n : Int) ≤ 134 := by
        have h1 := hmo.dist
        have h2 := dist_len L st.b L.length
        rw [HLL.out] at h1 h2
        omega
      have HNX := Lib.hid hnx
      have hkN' : (k1 : Int) < (N : Int) := by omega
      have hk2' : (k1 : Int) < 200 := by omega
      have hk0 : (0 : Int) ≤ (k1 : Int) := by omega
      have HBIT := Lib.hid hbit
      have HLB := Lib.hid hlb
      have HLD := Lib.hid hld
      have HQ := Lib.hid hq
      clear hnx hmo hst hxi hk1 hbit hlb hld hq hms hfr
      go_upto_region 14 with (go_at_call 39; refine (HMC.out _).mono ?_; rintro e wm ⟨rfl, hBm⟩)
      have HKm := Lib.hid (HK.out.trans (R.Keeps.of_below [] hBm) (fun k hk => by simp at hk))
      have HRm : Hid (BRow wm g st.b) := Lib.hid (BRow.move HRr.out (hBm.block _ HRr.out.size))
      have HDm : Hid (BoolRow wm db st.d) := Lib.hid (HDr.out.move (hBm.block _ HDr.out.size))
      clear hBm hcell
      have hlb := HLB.out
      have hld := HLD.out
      by_cases hd : st.d.getD k1 false = true
      · have c1 : wm.cell? ⟨db, k1, none⟩ = some (.bool true) := by rw [← hd]; exact HDm.out.cell (by omega)
        have HE := Lib.hid (mend1_on hd)
        go_wp2_with fail
        refine ⟨⟨i + 1, by go_num, by rw [HNX.out, HE.out], by omega, by rw [HNX.out, HE.out]; exact HRm, by rw [HNX.out, HE.out]; exact HDm, HKm⟩, by simp [intOf]; omega⟩
      · have hd' : st.d.getD k1 false = false := by simpa using hd
        have c1 : wm.cell? ⟨db, k1, none⟩ = some (.bool false) := by rw [← hd']; exact HDm.out.cell (by omega)
        have f1 : wm.frozen? ⟨db, k1, none⟩ = false := HDm.out.frozen _
        have HE := Lib.hid (mend1_off hd')
        clear hd hd'
        go_upto_region 16 with fail
        obtain ⟨w5, hw5⟩ : ∃ w5, wm.setCell ⟨db, k1, none⟩ (.bool true) = w5 := ⟨_, rfl⟩
        rw [hw5]
        have HD5 : Hid (BoolRow w5 db (st.d.set k1 true)) := by rw [← hw5]; exact Lib.hid (HDm.out.set k1 true)
        have HR5 : Hid (BRow w5 g st.b) := by rw [← hw5]; exact Lib.hid (BRow.move HRm.out (Below.heap_setCell _ _ _ _ hgd))
        have HK5 : Hid (R.Keeps [g, db] w2 w5) := by rw [← hw5]; exact Lib.hid (HKm.out.setCell (fun _ => by simp) _)
        clear hw5 c1 f1
        have f2 : w5.frozen? ⟨g, k1, none⟩ = false := HR5.out.frozen (by omega)
        have hc2 := HR5.out.cell (k := k1) (by omega)
        have hset := HR5.out.set (k := k1) (by omega) (flipU (st.b.getD k1 0))
        have fin : ∀ W, W = w5.setCell ⟨g, k1, none⟩ (.int .u8 ((flipU (st.b.getD k1 0)).toNat : Int)) → Hid (BRow W g (mendL L ks (i + 1)).b) ∧ Hid (BoolRow W db (mendL L ks (i + 1)).d) ∧ Hid (R.Keeps [g, db] w2 W) ∧ (((mendL L ks (i + 1)).n : Nat) : Int) = (st.n : Int) + 1 := by
          rintro W rfl
          rw [HNX.out, HE.out]
          exact ⟨Lib.hid hset, Lib.hid (HD5.out.move (Below.heap_setCell _ _ _ _ (fun e => hgd e.symm))), Lib.hid (HK5.out.setCell (fun _ => by simp) _), by simp⟩
        have FIN := Lib.hid fin
        clear fin hset
        clear hlb hld
        rcases HBIT.out with hb | hb
        · rw [hb] at hc2 FIN
          have c2 : w5.cell? ⟨g, k1, none⟩ = some (.int .u8 48) := hc2
          have FIN2 := Lib.hid (FIN.out _ rfl)
          clear hc2 FIN
          go_wp2_with fail
          exact ⟨⟨i + 1, by go_num, by rw [FIN2.out.2.2.2], by omega, FIN2.out.1, FIN2.out.2.1, FIN2.out.2.2.1⟩, by simp [intOf]; omega⟩
        · rw [hb] at hc2 FIN
          have c2 : w5.cell? ⟨g, k1, none⟩ = some (.int .u8 49) := hc2
          have FIN2 := Lib.hid (FIN.out _ rfl)
          clear hc2 FIN
          go_wp2_with fail
          exact ⟨⟨i + 1, by go_num, by rw [FIN2.out.2.2.2], by omega, FIN2.out.1, FIN2.out.2.1, FIN2.out.2.2.1⟩, by simp [intOf]; omega⟩
    · obtain rfl : i = q := by omega
      have hbl : (mendL L ks i).b.length = N := by have := (HMO.out i).lb; rw [HLL.out] at this; exact this
      have hcv := HRr.out.str (cap := cap) hbl
      have hchb : ((mendL L ks i).n : Int) ≤ 134 := by
        have h1 := (HMO.out i).dist
        have h2 := dist_len L (mendL L ks i).b L.length
        rw [HLL.out] at h1 h2
        omega
      obtain ⟨ch, hch⟩ : ∃ ch, (mendL L ks i).n = ch := ⟨_, rfl⟩
      rw [hch] at hchb
      rw [hch] at HLE HEQ ⊢
      have HRD2 := Lib.hid (fun W => code_Read.calls k _ _ _ S n 0 W HRD.out)
      obtain ⟨cd, hcd⟩ : ∃ cd : ByteArray, ⟨(mendL L ks i).b.toArray⟩ = cd := ⟨_, rfl⟩
      rw [hcd] at hcv HRD2
      have hle := HLE.out
      have hs3 := HS3.out
      have HHQ := Lib.hid hq
      clear HRr HDr HMO HRD hch hcd hbl hms hfr
      by_cases hll : i < l.length
      · have hll' : (i : Int) < (l.length : Int) := by omega
        have hi40 : ¬ (i : Int) < 40 := by omega
        by_cases hge : 2 * (ch : Int) ≥ fr
        · clear HHQ
          go_wp2_with (first | (go_at_call 34; refine (HRD2.out _).mono ?_; rintro e wd ⟨rfl, hBd⟩) | (go_at_call 22; refine (turndownlaw06_awake.calls k true _ HAW.out).mono ?_; rintro e we ⟨rfl, hBe⟩))
          go_ret
          exact ⟨rfl, (HBr.out.trans (hBd.mono HBr.out.size)).trans (hBe.mono (Nat.le_trans HBr.out.size hBd.size))⟩
        · obtain ⟨rfl, rfl⟩ := HEQ.out.resolve_left hge
          clear HHQ
          go_wp2_with (first | (go_at_call 34; refine (HRD2.out _).mono ?_; rintro e wd ⟨rfl, hBd⟩) | (go_at_call 22; refine (turndownlaw06_awake.calls k true _ HAW.out).mono ?_; rintro e we ⟨rfl, hBe⟩))
          go_ret
          exact ⟨rfl, (HBr.out.trans (hBd.mono HBr.out.size)).trans (hBe.mono (Nat.le_trans HBr.out.size hBd.size))⟩
      · have hll' : ¬ (i : Int) < (l.length : Int) := by omega
        by_cases hge : 2 * (ch : Int) ≥ fr
        · clear HHQ
          go_wp2_with (first | (go_at_call 34; refine (HRD2.out _).mono ?_; rintro e wd ⟨rfl, hBd⟩) | (go_at_call 22; refine (turndownlaw06_awake.calls k true _ HAW.out).mono ?_; rintro e we ⟨rfl, hBe⟩))
          go_ret
          exact ⟨rfl, (HBr.out.trans (hBd.mono HBr.out.size)).trans (hBe.mono (Nat.le_trans HBr.out.size hBd.size))⟩
        · obtain ⟨rfl, rfl⟩ := HEQ.out.resolve_left hge
          clear HHQ
          go_wp2_with (first | (go_at_call 34; refine (HRD2.out _).mono ?_; rintro e wd ⟨rfl, hBd⟩) | (go_at_call 22; refine (turndownlaw06_awake.calls k true _ HAW.out).mono ?_; rintro e we ⟨rfl, hBe⟩))
          go_ret
          exact ⟨rfl, (HBr.out.trans (hBd.mono HBr.out.size)).trans (hBe.mono (Nat.le_trans HBr.out.size hBd.size))⟩
end Go.Proofs.Ytcpojohpmcnnhaa.L

set_option linter.unusedVariables false
set_option linter.unusedSimpArgs false
namespace Go.Proofs.Ytcpojohpmcnnhaa.Pure
open Go.RowKit Go.Proofs.Ytcpojohpmcnnhaa.PA Go.Proofs.YtcpojohpmcnnhaaW.PrintWords Go.Proofs.YtcpojohpmcnnhaaW.PrintLast Go.Proofs.Ytcpojohpmcnnhaa.L Go.Proofs.Ytcpojohpmcnnhaa.A
theorem CodeMends (a : ByteArray) (x y : Int) (A : Option Addr) (c : Nat) (l : List Int) (W : World) (_ha : a.size ≤ 140737488351232) (_hx : (Lit.int .i64 x).wf = true) (_hy : (Lit.int .i64 y).wf = true)
    (hr : Kd.C (Kd.int .i64) W A l.length l) (_hc : l.length ≤ c) (_hl : ∀ z ∈ l, (Lit.int .i64 z).wf = true) :
    Calls Try.prog 12 #[.string a, .agg #[.int .i64 x, .int .i64 y], .slice A l.length c] W fun e w' => e = .returned (.bool true) ∧ Below W.heap.size W w' := by
  obtain ⟨m, E1, s1, b1⟩ := msg_ev a (most := 64) (by omega)
  have hx := modI_bd x (n := 15) (by omega)
  have hy := modI_bd y (n := 15) (by omega)
  obtain ⟨G, hG⟩ : ∃ G, wrap64 (1 + modI x 15) = G := ⟨_, rfl⟩
  obtain ⟨H, hH⟩ : ∃ H, wrap64 (1 + modI y 15) = H := ⟨_, rfl⟩
  have hG1 : 1 ≤ G ∧ G ≤ 15 := by rw [← hG, wsm (by omega)]; omega
  have hH1 : 1 ≤ H ∧ H ≤ 15 := by rw [← hH, wsm (by omega)]; omega
  have tG : tapB G = true := by unfold tapB; simp; omega
  have tH : tapB H = true := by unfold tapB; simp; omega
  have good : ∀ s : ByteArray, s.size ≤ 64 → bitsS s = true → cardR s G H = (cardS s G H, 0) := by
    intro s h1 h2
    unfold cardR
    rw [if_pos (by unfold goodS; rw [h2, tG, tH, decide_eq_true h1]; rfl)]
  have c1 := card_ev m G H (by omega)
  rw [good m s1 b1] at c1
  have hp := cardS_size m G H
  have hfree : code_Free.f G H = some ((freeS G.toNat H.toNat 64).1, 0) := by
    unfold code_Free.f
    rw [areTaps_all, tG, tH]
    simp only [Option.bind_some, Bool.and_self, if_true]
    unfold code_taps_free.f
    rw [if_pos (show tapsOk G H from ⟨by omega, by omega, by omega, by omega⟩)]
    rfl
  have hpos := free_pos (g := G.toNat) (h := H.toNat) (by omega) (by omega) (by omega) (by omega) 64
  have hle8 : (freeS G.toNat H.toNat 64).1 ≤ 8 := free_le G.toNat H.toNat 63
  obtain ⟨fr, hfr⟩ : ∃ fr, (freeS G.toNat H.toNat 64).1 = fr := ⟨_, rfl⟩
  rw [hfr] at hfree hpos hle8
  obtain ⟨cs, hcs⟩ : ∃ cs, cardS m G H = cs := ⟨_, rfl⟩
  have hcb : bitsB cs.data.toList = true := by rw [← hcs]; exact cardS_bits _ _ _
  rw [hcs] at c1 hp
  have hcl : cs.data.toList.length = cs.size := data_len cs
  obtain ⟨ks, hks⟩ : ∃ ks : Nat → Nat, (fun i => (modI (l.getD i 0) (cs.size : Int)).toNat) = ks := ⟨_, rfl⟩
  have hkv : ∀ i, ((ks i : Nat) : Int) = modI (l.getD i 0) (cs.size : Int) ∧ ks i < cs.size := by
    intro i
    have hb := modI_bd (l.getD i 0) (n := (cs.size : Int)) (by omega)
    have e : ks i = (modI (l.getD i 0) (cs.size : Int)).toNat := by rw [← hks]
    omega
  have hbit : ∀ k, k < cs.data.toList.length → cs.data.toList.getD k 0 = 48 ∨ cs.data.toList.getD k 0 = 49 := by
    intro k hk
    have := bit_getD hcb k
    rw [List.getD_eq_getElem?_getD, List.getElem?_eq_getElem hk] at this ⊢
    exact this
  obtain ⟨q, hq⟩ : ∃ q, q = min l.length 40 := ⟨_, rfl⟩
  have hok := mend_ok (c := cs.data.toList) (by omega) hbit (ks := ks) (fun i => by rw [hcl]; exact (hkv i).2) q
  obtain ⟨b, hb⟩ : ∃ b : ByteArray, (⟨(mendL cs.data.toList ks q).b.toArray⟩ : ByteArray) = b := ⟨_, rfl⟩
  have hbd : b.data.toList = (mendL cs.data.toList ks q).b := by rw [← hb]
  have hbz : b.size = 2 * (m.size + 3) := by rw [← data_len, hbd, hok.lb, hcl]; omega
  have hbb : bitsS b = true := by
    unfold bitsS bitsB
    rw [List.all_eq_true]
    intro z hz
    rw [hbd] at hz
    obtain ⟨k, hk, e⟩ := List.getElem_of_mem hz
    have := hok.bits k (by rw [← hok.lb]; exact hk)
    rw [List.getD_eq_getElem?_getD, List.getElem?_eq_getElem hk, Option.getD_some, e] at this
    simpa using this
  have hread := read_ev (x := G) (y := H) hbz (by omega) (by omega) hbb hG1 hH1
  have hn1 := near_all (c := b) (m := m) (x := G) (y := H) hbz (by omega) (by omega) (by omega) b1
  obtain ⟨S, hS⟩ : ∃ S, readM b G H (m.size + 3) = S := ⟨_, rfl⟩
  obtain ⟨V, hV⟩ : ∃ V, VR G.toNat H.toNat b (m.size + 3) 0 0 = V := ⟨_, rfl⟩
  have hSz : S.size = m.size := by rw [← hS, readM_size]; omega
  have hSb : bitsS S = true := by rw [← hS]; exact readM_bits _ _ _ _
  have hn2 := near_all (c := b) (m := S) (x := G) (y := H) hbz (by omega) (by omega) (by omega) hSb
  have hd := hok.dist
  rw [hcl, ← hbd, hp] at hd
  rw [hS, hV] at hread hn1 hn2
  rw [hcs, show 2 * (m.size + 3) = 2 * m.size + 6 by omega] at hn1
  rw [show 2 * (m.size + 3) = 2 * m.size + 6 by omega] at hn2
  have hn2' := hn2.2.2 rfl
  obtain ⟨ch, hch⟩ : ∃ ch, (mendL cs.data.toList ks q).n = ch := ⟨_, rfl⟩
  have hle : V ≤ ((mendL cs.data.toList ks q).n : Int) := by rw [← hd]; exact hn1.1
  have heq : 2 * ((mendL cs.data.toList ks q).n : Int) ≥ fr ∨ (S = m ∧ V = ((mendL cs.data.toList ks q).n : Int)) := by
    by_cases hlt : 2 * ((mendL cs.data.toList ks q).n : Int) ≥ fr
    · exact .inl hlt
    · right
      have he : m = S := by
        refine Classical.byContradiction (fun hne => ?_)
        have hf := card_far hG1 hH1 (a := m) (b := S) hSz.symm b1 hSb (by omega) hne
        rw [hfr, hcs, show 2 * (m.size + 3) = 2 * m.size + 6 by omega] at hf
        have ht := dist_tri cs.data.toList b.data.toList (cardS S G H).data.toList (2 * m.size + 6)
        rw [dist_sym b.data.toList] at ht
        omega
      refine ⟨he.symm, ?_⟩
      rw [← hn2', ← hd, ← he, hcs]
  rw [← hb] at hread
  obtain ⟨k1, K1⟩ := E1
  obtain ⟨k2, K2⟩ := c1
  obtain ⟨k3, K3⟩ := hread
  obtain ⟨k4, K4⟩ := awake_ev
  obtain ⟨k, hk⟩ : ∃ k, k = k1 + k2 + k3 + k4 := ⟨_, rfl⟩
  exact mends_c a x y A c l W hr k m (K1 k (by omega)) s1 (modI x 15) (modI y 15) (mod_all _ (by omega) (by omega)) (mod_all _ (by omega) (by omega))
    cs (by rw [hG, hH]; exact K2 k (by omega)) hp hcb fr (by rw [hG, hH]; exact hfree) ⟨hpos, hle8⟩ q hq ks (fun i _ => by rw [(hkv i).1]; exact mod_all _ (by omega) (by omega)) (fun i => (hkv i).2)
    S V (by rw [hG, hH]; exact K3 k (by omega)) hSz hle heq (K4 k (by omega))
end Go.Proofs.Ytcpojohpmcnnhaa.Pure

set_option linter.unusedVariables false
set_option linter.unusedSimpArgs false
namespace Go.Proofs.Ytcpojohpmcnnhaa.E
open Go.ChangeShapes Go.WideShapes Go.ChangeAt Go.RowKit Go.Deep
open Go.Proofs.YtcpojohpmcnnhaaW.PrintWords Go.Proofs.YtcpojohpmcnnhaaW.PrintLast Go.Proofs.YtcpojohpmcnnhaaW.PrintMore
open Go.Proofs.Ytcpojohpmcnnhaa.PA
theorem own : ownKnob Try.prog.godebug = none := by kernel_rfl
theorem laidOut : laidOutB Try.prog = true := by kernel_rfl
variable {H : Type} {enc : TypeId × Value → H}
theorem open_int3 {W : World} {fuel : Nat} {cs : List Value} {x : DataW H × List MemPlace} (h : DataW.trod enc Try.prog W 0 (fun _ => true) true fuel 3 cs = some x) : ∃ n, cs = [.int .i64 n] ∧ x = (.lit (.int .i64 n), []) ∧ (Lit.int .i64 n).wf = true :=
  DataW.trod_int Try.underlying3 h
theorem okWide_array {P : Program} {w : World} {r : Reach} {base : Nat} {t e : TypeId} {n : Nat} {v : Value} (ht : P.underlying t = some (.array n e)) (h : Value.okWide P w r base t v) : ∃ cs, v = .agg cs ∧ cs.size = P.cellsOf t := by
  simp only [Value.okWide, ht] at h
  obtain ⟨cs, h1, h2, _⟩ := h
  exact ⟨cs, h1, h2⟩
set_option maxRecDepth 100000 in
theorem ints_of_array {W : World} {base : Nat} {t n : Nat} {v : Value} {d : DataW H} {p : List MemPlace} (ht : Try.prog.underlying t = some (.array n 3)) (hC : Try.prog.cellsOf t = n) (hv : Value.okWide Try.prog W .any base t v)
    (h : DataW.Trod enc Try.prog W 0 (fun _ => true) true t v d p) : ∃ cs : Array Value, v = .agg cs ∧ cs.size = n ∧ ∀ i, i < n → ∃ x : Int, (v.cells.toList.drop i).take 1 = [.int .i64 x] ∧ (Lit.int .i64 x).wf = true := by
  have e1 : Try.prog.cellsOf 3 = 1 := by kernel_rfl
  obtain ⟨cs, rfl, hsz⟩ := okWide_array ht hv
  obtain ⟨fuel, hf⟩ := h
  obtain ⟨xs, m, _, _, _, hl, hel⟩ := DataW.trod_array ht hf
  refine ⟨cs, rfl, by omega, fun i hi => ?_⟩
  have h1 := hel i hi
  rw [e1, Nat.mul_one] at h1
  rw [List.getElem?_eq_getElem (by omega)] at h1
  obtain ⟨x, h2, _, h3⟩ := open_int3 h1
  exact ⟨x, h2, h3⟩
theorem arr2 : ∀ {cs : Array Value}, cs.size = 2 → ∃ a b, cs = #[a, b] := by
  rintro ⟨l⟩ h
  match l, h with
  | [a, b], _ => exact ⟨a, b, rfl⟩
set_option maxRecDepth 100000 in
theorem open_arr2 {W : World} {base : Nat} {v : Value} {d : DataW H} {p : List MemPlace} (hv : Value.okWide Try.prog W .any base 38 v) (h : DataW.Trod enc Try.prog W 0 (fun _ => true) true 38 v d p) :
    ∃ a b : Int, v = .agg #[.int .i64 a, .int .i64 b] ∧ (Lit.int .i64 a).wf = true ∧ (Lit.int .i64 b).wf = true := by
  obtain ⟨cs, rfl, hsz, hc⟩ := ints_of_array Try.underlying38 (by kernel_rfl) hv h
  obtain ⟨c0, c1, rfl⟩ := arr2 hsz
  obtain ⟨a, ha, wa⟩ := hc 0 (by omega)
  obtain ⟨b, hb, wb⟩ := hc 1 (by omega)
  simp [Value.cells] at ha hb
  exact ⟨a, b, by rw [ha, hb], wa, wb⟩
end Go.Proofs.Ytcpojohpmcnnhaa.E

set_option linter.unusedVariables false
set_option linter.unusedSimpArgs false
namespace Go.Proofs.Ytcpojohpmcnnhaa.E
open Go.ChangeShapes Go.WideShapes Go.ChangeAt Go.RowKit Go.Deep
open Go.Proofs.YtcpojohpmcnnhaaW.PrintWords Go.Proofs.YtcpojohpmcnnhaaW.PrintLast Go.Proofs.YtcpojohpmcnnhaaW.PrintMore
open Go.Proofs.Ytcpojohpmcnnhaa.PA
variable {H : Type} {enc : TypeId × Value → H}
set_option maxRecDepth 100000 in
theorem open_is {W : World} {a : Option Addr} {len cap : Nat} {d : DataW H} {p : List MemPlace} (h : DataW.Trod enc Try.prog W 0 (fun _ => true) true 22 (.slice a len cap) d p) :
    ∃ xs : List Int, xs.length = len ∧ len ≤ cap ∧ Kd.C (Kd.int .i64) W a len xs ∧ ∀ x ∈ xs, (Lit.int .i64 x).wf = true := by
  obtain ⟨fuel, hf⟩ := h
  rcases open_ints Try.underlying22 Try.underlying3 (by kernel_rfl) hf with ⟨hcs, _⟩ | ⟨x, l, c, zs, hcs, _, hl, hm, hz, _, hcell, hwz⟩
  · simp [Value.cells] at hcs
    obtain ⟨rfl, rfl, rfl⟩ := hcs
    exact ⟨[], rfl, Nat.le_refl _, ⟨rfl, by omega, fun h => by omega⟩, fun x hx => by simp at hx⟩
  · simp [Value.cells] at hcs
    obtain ⟨rfl, rfl, rfl⟩ := hcs
    simp only [if_true] at hz
    refine ⟨zs.take len, by rw [List.length_take]; omega, hl, ⟨by rw [List.length_take]; omega, by unfold maxLen at hm; omega, fun _ => ⟨x, rfl, fun j p hp => ?_⟩⟩, fun s hs => hwz s (List.mem_of_mem_take hs)⟩
    have hj : j < len := by have := (List.getElem?_eq_some_iff.1 hp).1; rw [List.length_take] at this; omega
    rw [List.getElem?_take_of_lt hj] at hp
    have h1 := hcell j (by omega)
    rw [List.getD_eq_getElem?_getD, hp] at h1
    refine ⟨[.int .i64 p], rfl, rfl, fun i u hu => ?_⟩
    match i, hu with
    | 0, hu => simp at hu; subst hu; show W.cell? (x.add (j * 1 + 0)) = _; rw [Nat.mul_one, Nat.add_zero]; simpa using h1
    | i + 1, hu => simp at hu
end Go.Proofs.Ytcpojohpmcnnhaa.E

set_option linter.unusedVariables false
set_option linter.unusedSimpArgs false
namespace Go.Proofs.Ytcpojohpmcnnhaa.codeMends
open Go.ChangeShapes Go.WideShapes Go.ChangeAt Go.RowKit
open Go.ChangeMaps (open_string shut_string)
open Go.Proofs.Ytcpojohpmcnnhaa.E
set_option maxRecDepth 100000 in
theorem lifted (os : Os) (started : os.Started) (H : Type) (enc : TypeId × Value → H) :
  ReturnsInHanded {} Try.checked os 12 .any (Rows.codeMendsSpec.pre6 enc Try.prog Try.f12 Rows.codeMendsRow.domain false) (Rows.codeMendsSpec.post enc Try.prog Try.f12 false true false false) := by
 refine returnsInHanded_of_change_sized (C := Try.checked) own started (by kernel_rfl) Try.func12
  (ChangeSpec.witness6 (enc := enc) (C := Try.checked) false ⟨#[], #[.string ByteArray.empty, .agg #[.int .i64 0, .int .i64 0], .slice none 0 0], []⟩ 8 (by kernel_rfl) (by kernel_rfl) (by kernel_rfl) (by kernel_rfl)) ?_
 intro W base args ds gs before hval0 hW hcnd hsz0 _
 have hsz : (DataW.weightsEach Try.prog (Try.f12.params.toList ++ Rows.codeMendsSpec.plain.varTypes Try.prog) (ds ++ gs)).all (· ≤ reachBytes) = true := hsz0
 have hval : ∀ (j : Nat) t v, Try.f12.params[j]? = some t → args[j]? = some v → Value.okWide Try.prog W .any base t v := hval0
 have hW' := hW
 obtain ⟨p, q, hA0, hV, rfl, hfz, hnd⟩ := hW
 have hA : DataW.TrodAll enc Try.prog W 0 (fun _ => true) true Try.f12.params.toList args.toList ds p := hA0
 rw [Try.params12] at hA hval hsz
 obtain ⟨v0, vs0, d0, ds0, p0, q0, hargs, rfl, rfl, h0, r0⟩ := trodAll_cons hA
 obtain ⟨v1, vs1, d1, ds1, p1, q1, rfl, rfl, rfl, h1, r1⟩ := trodAll_cons r0
 obtain ⟨v2, vs2, d2, ds2, p2, q2, rfl, rfl, rfl, h2, r2⟩ := trodAll_cons r1
 obtain ⟨rfl, rfl, rfl⟩ := trodAll_nil r2
 obtain rfl : args = #[v0, v1, v2] := by cases args; simp_all
 obtain ⟨rfl, rfl⟩ := trodVars_none hV
 obtain ⟨a0, rfl, rfl, rfl, y0⟩ := open_string Try.underlying9 (hval 0 9 v0 rfl rfl) h0
 have w0 : a0.size ≤ 140737488351232 := by
  have z := sized_string hsz (j := 0) (t := 9) rfl rfl
  rw [Array.length_toList] at z
  exact z
 have k1 := h1
 have lt1 : ∀ x ∈ p1, x.block < W.heap.size := by obtain ⟨m, hm⟩ := k1; exact DataW.trod_lt m _ _ _ hm
 obtain ⟨a1, b1, rfl, w1, u1⟩ := open_arr2 (hval 1 38 v1 rfl rfl) h1
 have k2 := h2
 have lt2 : ∀ x ∈ p2, x.block < W.heap.size := by obtain ⟨m, hm⟩ := k2; exact DataW.trod_lt m _ _ _ hm
 obtain ⟨a2, len2, cap2, rfl⟩ := okWide_slice Try.underlying22 (hval 2 22 v2 rfl rfl)
 obtain ⟨x2, rfl, y2, z2, w2⟩ := open_is h2
 clear hA0 hval0 hsz0 hsz
 refine (Pure.CodeMends a0 a1 b1 a2 cap2 x2 W w0 w1 u1 z2 y2 w2).mono fun e W' ⟨he, bel⟩ => ?_
 subst he
 exact ⟨_, rfl, _, _, _, [], _, [], hW', trodAll_mk1 (shut_bool Try.underlying4 _), (trodAll_cons_mk (shut_string Try.underlying9 y0) (trodAll_cons_mk (Below.trod laidOut (by kernel_rfl) (of_decide_eq_true (by kernel_rfl)) k1 bel lt1) (trodAll_cons_mk (Below.trod laidOut (by kernel_rfl) (of_decide_eq_true (by kernel_rfl)) k2 bel lt2) trodAll_mk0))), rfl, bel.frame _, fun h => by cases h⟩
theorem over : Rows.codeMendsRow.holds Try.pinned (OpenSpec.ofChange Rows.codeMendsSpec) :=
 OpenClaim.holds_of_wide 12 Try.f12 rfl rfl rfl rfl rfl rfl rfl ⟨rfl, rfl, rfl, rfl, rfl⟩ rfl rfl rfl rfl rfl (by kernel_rfl) Try.func12 (by kernel_rfl)
  (of_decide_eq_true (by kernel_rfl)) (by unfold Func.isWrapper; first | (rw [if_pos (by decide +kernel)]; kernel_rfl) | (rw [if_neg (by decide +kernel)]; exact ⟨rfl, rfl⟩))
  (fun os started H enc _ => lifted os started H enc)
theorem proved : Rows.CodeMendsSaid := over
end Go.Proofs.Ytcpojohpmcnnhaa.codeMends
namespace Go.Proofs.Ytcpojohpmcnnhaa
theorem codeMends_holds : Rows.CodeMendsSaid := codeMends.proved
end Go.Proofs.Ytcpojohpmcnnhaa
