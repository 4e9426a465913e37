/- For all bookings and all rooms assigned to them the statement RoomsTurns holds: Go's function returns true and changes nothing that existed. -/
import Derived.Lib.SliceRun
import Derived.Shelf.SlSortCmp.Insertion
import Derived.Ground.SlsfProg
import Derived.Lib.Hide
import Derived.Maps.Views
import Derived.ChangeKeys
import Derived.Test.YtpjobcnfjpbaeaaProg
import Derived.Maps.OwnSet
import Derived.DeepKeys4
import Derived.WalkKit
import Derived.Sort.Statements
import Derived.Maps.OwnOps
import Derived.Carry
import Derived.Shelf.SlSortCmp.InsertionK
import Derived.Shelf.SlSortCmp.NoneTotal
import Derived.Test.YtpjobcnfjpbaeaaZk2
set_option linter.unusedSimpArgs false
set_option linter.unusedVariables false

namespace Go.Proofs.Ytpjobcnfjpbaeaa.PA
open Go.RowKit Go.Proofs.YtpjobcnfjpbaeaaW.PrintWords Go.Proofs.YtpjobcnfjpbaeaaW.PrintLast Go.Proofs.YtpjobcnfjpbaeaaW.PrintMore
attribute [local go_sem] max2_int min2_int max_two min_two max_three min_three max_four min_four
set_option linter.unusedVariables false
set_option linter.unusedSimpArgs false
def rooms_revenue.l0 : Nat → Int → List (S47) → Int → Int → Option (Int)
  | 0, _, _, _, _ => none
  | k + 1, x3, x6, x7, x8 => if x8 < x7 then (if 0 ≤ x8 then (if x8 < (x6.length : Int) then (rooms_revenue.l0 k (wrap64 (x3 + ((rd_T47 x6 x8).f2))) x6 x7 (wrap64 (x8 + 1))) else (none)) else (none)) else (some x3)
def rooms_revenue.f (k : Nat) (l0 : List (S47)) : Option (Int) := rooms_revenue.l0 k 0 l0 (l0.length : Int) 0
set_option maxHeartbeats 8000000 in
set_option maxRecDepth 100000 in
theorem rooms_revenue.calls (k : Nat) (A0 : Option Addr) (c0 : Nat) (l0 : List (S47)) (r : Int) (w : World) (hr0 : Kd.C k47 w A0 l0.length l0) (hc0 : l0.length ≤ c0) (h : rooms_revenue.f k l0 = some r) :
    Calls Try.prog 67 #[.slice A0 l0.length c0] w fun e w' => e = .returned (.int .i64 r) ∧ Below w.heap.size w w' := by
  have hu47 := Try.underlying47
  have HR0 := Aside0.mk hr0
  have HC0 := Aside0.mk hc0
  clear hr0 hc0
  have HB := Aside0.mk (Below.refl w.heap.size w)
  have H : (rooms_revenue.l0 k 0 l0 (l0.length : Int) 0) = some r := h
  clear h
  have H' := Aside0.mk H
  clear H
  go_enter Try.func67, Try.ntmps67
  go_wp2
  go_loopg [3, 8] k (fun kq v3 v8 w' => ∃ (x3_1 : Int) (x8_1 : Int), v3 = .int .i64 x3_1 ∧ v8 = .int .i64 x8_1 ∧ Aside0 (rooms_revenue.l0 kq x3_1 l0 (l0.length : Int) x8_1 = some r) ∧ Aside0 (kq ≤ k) ∧ Aside0 (Below w.heap.size w w'))
  case atStart => exact ⟨(0), (0), (by first | rfl | (simp; done) | (simp [*]; done)), (by first | rfl | (simp; done) | (simp [*]; done)), H', ⟨Nat.le_refl _⟩, ⟨by repeat (first | (with_reducible first | exact HB.out | apply below_alloc | apply pw_below_drewN | apply below_drew1) | exact HB.out)⟩⟩
  case round =>
    clear H'
    obtain ⟨x3_1, x8_1, rfl, rfl, HA, HK1, HB⟩ := hrel
    cases gk with
    | zero => exact absurd HA.out (by simp [rooms_revenue.l0])
    | succ k1 =>
      have H := HA.out
      clear HA
      simp only [rooms_revenue.l0] at H
      by_cases c2 : x8_1 < (l0.length : Int)
      · rw [if_pos c2] at H
        have c2b0 : decide (x8_1 < (l0.length : Int)) = true := decide_eq_true c2
        clear c2
        by_cases c3 : 0 ≤ x8_1
        · rw [if_pos c3] at H
          have c3b0 : decide (0 ≤ x8_1) = true := decide_eq_true c3
          clear c3
          by_cases c4 : x8_1 < (l0.length : Int)
          · rw [if_pos c4] at H
            have c4b0 : decide (x8_1 < (l0.length : Int)) = true := decide_eq_true c4
            clear c4
            have H' := Aside0.mk H
            clear H
            have p140 : 0 ≤ (x8_1 : Int) := of_decide_eq_true (by first | (with_reducible assumption) | assumption)
            have q140 : x8_1 < (l0.length : Int) := of_decide_eq_true (by first | (with_reducible assumption) | assumption)
            obtain ⟨ad140, e140, hx140_0, hx140_1, hx140_2⟩ := at_T47 HR0.out x8_1 p140 q140
            cases e140
            replace hx140_0 := (HB.out.cell (World.block_lt_of_cell? w _ hx140_0)).trans hx140_0
            replace hx140_1 := (HB.out.cell (World.block_lt_of_cell? w _ hx140_1)).trans hx140_1
            replace hx140_2 := (HB.out.cell (World.block_lt_of_cell? w _ hx140_2)).trans hx140_2
            replace p140 := eq_true p140
            replace q140 := eq_true q140
            go_wp2_with (first | ((with_reducible refine gate_dst (N := 5) rfl ?_); refine box_event ?hg (N := 5) ?hd (cs := #[.int .i64 0, .int .i64 0, .int .i64 0]) (t := 47) ?hr ?_; (case hd => rfl); (case hg => rfl); (case hr => first | (go_simp; done) | (go_simp; rfl)); intro gb141 hg w5 hbox hb; have n0_ := Aside0.mk (below_step (by repeat (first | (with_reducible first | exact HB.out | apply below_alloc | apply pw_below_drewN | apply below_drew1) | exact HB.out)) hb); have n1_ := Aside0.mk (hbox); have n2_ := Aside0.mk ((by rw [hg]; exact (below_size (by repeat (first | (with_reducible first | exact HB.out | apply below_alloc | apply pw_below_drewN | apply below_drew1) | exact HB.out))) : w.heap.size ≤ gb141)); have n3_ := Aside0.mk ((by rw [hg]; exact (below_size (by repeat (first | (with_reducible first | exact HB.out | apply below_alloc | apply pw_below_drewN | apply below_drew1) | exact HB.out))) : w.heap.size ≤ gb141)); clear HB; have HB := n0_; have BK141 := n1_; have GW141 := n2_; have GE141 := n3_; clear n0_ n1_ n2_ n3_; clear hb hbox hg; have hcz6_0 : w5.cell? ⟨gb141, 0, none⟩ = some (.int .i64 0) := (blk_cell BK141.out 0).trans rfl; have hcz6_1 : w5.cell? ⟨gb141, 1, none⟩ = some (.int .i64 0) := (blk_cell BK141.out 1).trans rfl; have hcz6_2 : w5.cell? ⟨gb141, 2, none⟩ = some (.int .i64 0) := (blk_cell BK141.out 2).trans rfl; have hfz6_0 := blk_frozen BK141.out 0; have hfz6_1 := blk_frozen BK141.out 1; have hfz6_2 := blk_frozen BK141.out 2))
            go_roundg k1
            case measure => have := HK1.out; omega
            case rel => exact ⟨(wrap64 (x3_1 + ((rd_T47 l0 x8_1).f2))), (wrap64 (x8_1 + 1)), (by first | rfl | (simp; done) | (simp [*]; done)), (by first | rfl | (simp; done) | (simp [*]; done)), H', ⟨by have := HK1.out; omega⟩, ⟨by repeat (first | (with_reducible first | exact HB.out | apply below_alloc | apply pw_below_drewN | apply below_drew1 | refine below_set ?_ GE141.out) | exact HB.out)⟩⟩
          · rw [if_neg c4] at H
            exact absurd H (by simp)
        · rw [if_neg c3] at H
          exact absurd H (by simp)
      · rw [if_neg c2] at H
        have c2b0 : decide (x8_1 < (l0.length : Int)) = false := decide_eq_false c2
        clear c2
        obtain rfl := Option.some.inj H
        go_wp2
        go_ret
        exact ⟨by first | rfl | (simp [errW_none, errW_some] <;> rfl) | (simp [*, errW_none, errW_some] <;> rfl), by repeat (first | (with_reducible first | exact HB.out | apply below_alloc | apply pw_below_drewN | apply below_drew1) | exact HB.out)⟩
end Go.Proofs.Ytpjobcnfjpbaeaa.PA

set_option linter.unusedVariables false
set_option linter.unusedSimpArgs false
namespace Go.Proofs.Ytpjobcnfjpbaeaa.A
open Go.RowKit Go.Proofs.YtpjobcnfjpbaeaaW.PrintWords Go.Proofs.YtpjobcnfjpbaeaaW.PrintLast Go.Proofs.YtpjobcnfjpbaeaaW.PrintMore
open Go.Proofs.Ytpjobcnfjpbaeaa.PA
def bestF (k : Nat) (l : List S47) (rooms : List Int) : Option (List Int × List Int × Int) :=
  (acceptF k l rooms).bind fun c => (rooms_taken.f k l c.1).bind fun s => (rooms_revenue.f k s.1).bind fun n => some (c.1, c.2, n)
theorem own_reads {w : World} {base : Nat} {v : Value} {xs : List Int} (h : w.ownsRow base 3 1 v xs.length (ints xs)) : ∃ A c, v = .slice A xs.length c ∧ xs.length ≤ c ∧ Kd.C (Kd.int .i64) w A xs.length xs :=
  Kd.R_reads (Kd.R_of_own (ok := fun _ => True) h (fun _ _ => trivial))
set_option maxRecDepth 100000 in
set_option maxHeartbeats 3200000 in
theorem best_c (A : Option Addr) (c : Nat) (l : List S47) (A1 : Option Addr) (c1 k : Nat) (rooms : List Int) (tk pr : List Int) (n : Int) (w : World) (hr : Kd.C k47 w A l.length l) (hc : l.length ≤ c) (hr1 : Kd.C (Kd.int .i64) w A1 rooms.length rooms)
    (hl : l.length ≤ 1000) (hn : rooms.length ≤ 900) (hn0 : 0 < rooms.length) (hbk : ∀ x ∈ l, Bk rooms.length x) (h : bestF k l rooms = some (tk, pr, n)) :
    Calls Try.prog 44 #[.slice A l.length c, .slice A1 rooms.length c1] w fun e w' => ∃ v1 v2, e = .returned (.tuple #[.agg #[v1, v2], .int .i64 n]) ∧
      w'.ownsRow w.heap.size 3 1 v1 tk.length (ints tk) ∧ w'.ownsRow w.heap.size 3 1 v2 pr.length (ints pr) ∧ (∀ k, v1.ownBlock = some k → v2.ownBlock ≠ some k) ∧ Below w.heap.size w w' := by
  obtain ⟨⟨tk', pr'⟩, hacc, h'⟩ := Option.bind_eq_some_iff.1 h
  clear h
  obtain ⟨⟨some', ok'⟩, htak, h''⟩ := Option.bind_eq_some_iff.1 h'
  clear h'
  obtain ⟨n', hrev, h3⟩ := Option.bind_eq_some_iff.1 h''
  clear h''
  simp only [Option.some.injEq, Prod.mk.injEq] at h3
  obtain ⟨rfl, rfl, rfl⟩ := h3
  have hB1 := (Below.refl w.heap.size w).alloc (Nat.le_refl _) (Obj.cells #[Value.slice none 0 0, Value.slice none 0 0] 39)
  have hca := accept_c A c l A1 c1 k rooms tk' pr' _ (Kd.C_below hr hB1) (Kd.C_below hr1 hB1) hl hn hn0 hbk hacc
  have HCA := Lib.hid hca
  have HR := Lib.hid hr
  have HT := Lib.hid htak
  have HV := Lib.hid hrev
  have HB1 := Lib.hid hB1
  clear hca hr hr1 hbk hacc htak hrev hB1
  go_enter Try.func44, Try.ntmps44
  go_wp2_with fail
  refine HCA.out.mono ?_
  rintro e w1 ⟨v1, v2, rfl, ho1, ho2, hne, hBW1⟩
  have hs0 : (w.alloc (Obj.cells #[Value.slice none 0 0, Value.slice none 0 0] 39)).heap.size = w.heap.size + 1 := by simp
  rw [hs0] at ho1 ho2 hBW1
  have hc0 : w1.heap[w.heap.size]? = some (.cells #[Value.slice none 0 0, Value.slice none 0 0] 39 (0, 0)) := by rw [hBW1.block _ (by omega), heap_alloc_new]
  have HW1 : Below w.heap.size w w1 := HB1.out.trans (hBW1.mono (by omega))
  obtain ⟨X1, y1, rfl, hy1, hX1⟩ := own_reads ho1
  obtain ⟨X2, y2, rfl, hy2, hX2⟩ := own_reads ho2
  have hz1 := hBW1.size
  have HO1 := Lib.hid ho1
  have HO2 := Lib.hid ho2
  have HC0 := Lib.hid hc0
  clear ho1 ho2 hc0
  have hB2 := (HW1.alloc (by omega) (Obj.cells #[Value.slice X1 tk'.length y1, Value.slice X2 pr'.length y2] 39))
  have htk := rooms_taken.calls k A c l X1 y1 tk' some' ok' _ (Kd.C_below HR.out hB2) hc (Kd.C_below hX1 ((Below.refl _ _).alloc (Nat.le_refl _) _)) hy1 HT.out
  have HTK := Lib.hid htk
  have HB2 := Lib.hid hB2
  clear htk hB2 hX1 hX2
  go_wp2_with fail
  refine HTK.out.mono ?_
  rintro e w2 ⟨v3, rfl, hR3, hBW2⟩
  have hs2 : (w1.alloc (Obj.cells #[Value.slice X1 tk'.length y1, Value.slice X2 pr'.length y2] 39)).heap.size = w1.heap.size + 1 := by simp
  rw [hs2] at hBW2
  have hz2 := hBW2.size
  obtain ⟨X3, y3, rfl, hy3, hX3⟩ := Kd.R_reads hR3
  have hW2 : Below w.heap.size w w2 := HB2.out.trans (hBW2.mono (by omega))
  have hc2 : w2.heap[w1.heap.size]? = some (.cells #[Value.slice X1 tk'.length y1, Value.slice X2 pr'.length y2] 39 (0, 0)) := by rw [hBW2.block _ (by omega), heap_alloc_new]
  have hd2 : w2.heap[w.heap.size]? = some (.cells #[Value.slice none 0 0, Value.slice none 0 0] 39 (0, 0)) := by
    rw [hBW2.block _ (by omega), Below.heap_alloc _ _ _ (by omega)]; exact HC0.out
  have z1 : w2.cell? ⟨w1.heap.size, 0, none⟩ = some (.slice X1 tk'.length y1) := by simp [World.cell?, hc2]
  have z2 : w2.cell? ⟨w1.heap.size, 1, none⟩ = some (.slice X2 pr'.length y2) := by simp [World.cell?, hc2]
  have HC2 := Lib.hid hc2
  have HD2 := Lib.hid hd2
  have HX3 := Lib.hid hX3
  have HW2 := Lib.hid hW2
  have cells : ∀ w', R.Keeps [] w2 w' → w'.cell? ⟨w1.heap.size, 0, none⟩ = some (.slice X1 tk'.length y1) ∧ w'.cell? ⟨w1.heap.size, 1, none⟩ = some (.slice X2 pr'.length y2) := fun w' h =>
    ⟨h.cell (a := ⟨w1.heap.size, 0, none⟩) z1 (by simp), h.cell (a := ⟨w1.heap.size, 1, none⟩) z2 (by simp)⟩
  have CE := Lib.hid cells
  have hrv : ∀ w', R.Keeps [] w2 w' → _ := fun w' h => rooms_revenue.calls k X3 y3 some' n' w' (Kd.C_below HX3.out (h.to_below (Nat.le_refl _) (fun k hk => by simp at hk))) hy3 HV.out
  have HRV := Lib.hid hrv
  clear hc2 hd2 hX3 hW2 hR3 cells hrv
  go_wp2_with fail
  apply R.wp_region_text [0] [1, 2, 3, 4] 3 (R.Keeps [] w2)
  case hm => kernel_rfl
  case hB => kernel_rfl
  case hd => rfl
  case hQ => exact fun _ _ _ _ _ h => h
  case hS => exact (R.Keeps.refl _ _).drew
  case hF =>
    intro w' hS
    obtain ⟨z1, z2⟩ := CE.out w' hS
    have HS := Lib.hid hS
    clear hS
    simp only [R.pickC, List.filterMap_cons, List.getElem?_toArray, List.getElem?_cons_zero, List.getElem?_cons_succ, List.filterMap_nil]
    (with_reducible refine R.wpStill_plain rfl (fun K hK => ?_)); go_simp; with_reducible refine hK _ ?_; clear hK K
    exact wpStill_nil rfl
  case hC =>
    simp only [R.chainOf, List.getElem?_toArray, List.getElem?_cons_zero, List.getElem?_cons_succ, Nat.reduceBNe, Bool.and_true, Bool.and_false, Bool.false_and]
    refine R.wpSeq_same (fun K hK => ?_)
    go_simp
    with_reducible refine hK _ _ (R.Keeps.refl _ _).drew ?_
    clear hK K
    refine R.wpSeq_same (fun K hK => ?_)
    go_simp
    refine (HRV.out _ (R.Keeps.refl _ _).drew).mono ?_
    rintro e w3 ⟨rfl, hBW3⟩
    have hK3 : R.Keeps [] w2 w3 := ((R.Keeps.refl _ _).drew).trans (R.Keeps.of_below [] hBW3) (fun k hk => by simp at hk)
    refine hK _ _ hK3 ?_
    clear hK K
    have hz3 := hK3.size
    have hd3 : w3.heap[w.heap.size]? = some (.cells #[Value.slice none 0 0, Value.slice none 0 0] 39 (0, 0)) := by rw [hK3.block _ (by omega) (by simp)]; exact HD2.out
    have z3 : w3.cell? ⟨w.heap.size, 0, none⟩ = some (.slice none 0 0) := by simp [World.cell?, hd3]
    have z4 : w3.cell? ⟨w.heap.size, 1, none⟩ = some (.slice none 0 0) := by simp [World.cell?, hd3]
    have z5 : w3.frozen? ⟨w.heap.size, 0, none⟩ = false := by simp [World.frozen?, hd3]
    have z6 : w3.frozen? ⟨w.heap.size, 1, none⟩ = false := by simp [World.frozen?, hd3]
    have HZ := Lib.hid hd3
    have HK3 := Lib.hid hK3
    clear hd3 hK3
    refine R.wpSeq_tail _ rfl ?_
    simp only [List.map_cons, List.map_nil]
    go_wp2_with fail
    have hq1 : ((w3.setCell ⟨w.heap.size, 0, none⟩ (.slice X1 tk'.length y1)).setCell ⟨w.heap.size, 1, none⟩ (.slice X2 pr'.length y2)).cell? ⟨w.heap.size, 0, none⟩ = some (.slice X1 tk'.length y1) := by
      simp [World.cell?, World.setCell, Array.getElem?_modify, HZ.out]
    have hq2 : ((w3.setCell ⟨w.heap.size, 0, none⟩ (.slice X1 tk'.length y1)).setCell ⟨w.heap.size, 1, none⟩ (.slice X2 pr'.length y2)).cell? ⟨w.heap.size, 1, none⟩ = some (.slice X2 pr'.length y2) := by
      simp [World.cell?, World.setCell, Array.getElem?_modify, HZ.out]
    have mv : ∀ {v : Value} {xs : List Value} {n : Nat}, w1.ownsRow (w.heap.size + 1) 3 1 v n xs → ((w3.setCell ⟨w.heap.size, 0, none⟩ (.slice X1 tk'.length y1)).setCell ⟨w.heap.size, 1, none⟩ (.slice X2 pr'.length y2)).ownsRow w.heap.size 3 1 v n xs := fun h => by
      refine own_weaken (own_move h (fun k hk => ?_)) (Nat.le_succ _)
      have := h.lt k hk
      rw [Below.heap_setCell _ _ _ _ (by show k ≠ w.heap.size; omega), Below.heap_setCell _ _ _ _ (by show k ≠ w.heap.size; omega), HK3.out.block k (by omega) (by simp), hBW2.block k (by omega), Below.heap_alloc _ _ _ (by omega)]
    refine bodyPost_ret (v := .tuple #[.agg #[.slice X1 tk'.length y1, .slice X2 pr'.length y2], .int .i64 n']) (by simp [results, Try.results44, go_sem, hq1, hq2]) rfl ⟨_, _, rfl, mv HO1.out, mv HO2.out, hne, ?_⟩
    exact ((HW2.out.trans (HK3.out.to_below (by omega) (fun k hk => by simp at hk))).setCell (p := ⟨w.heap.size, 0, none⟩) (Nat.le_refl _) _).setCell (p := ⟨w.heap.size, 1, none⟩) (Nat.le_refl _) _
end Go.Proofs.Ytpjobcnfjpbaeaa.A

set_option linter.unusedVariables false
set_option linter.unusedSimpArgs false
namespace Go.Proofs.Ytpjobcnfjpbaeaa.A
open Go.RowKit Go.Proofs.YtpjobcnfjpbaeaaW.PrintWords Go.Proofs.YtpjobcnfjpbaeaaW.PrintLast Go.Proofs.YtpjobcnfjpbaeaaW.PrintMore
open Go.Proofs.Ytpjobcnfjpbaeaa.PA
structure Good (l : List S47) (rooms : List Int) : Prop where
  many : l.length ≤ 40
  nights : 0 < rooms.length ∧ rooms.length ≤ 60
  room : ∀ n ∈ rooms, 0 ≤ n ∧ n ≤ 8
  from_ : ∀ x ∈ l, 0 ≤ x.f0 ∧ x.f0 < x.f1 ∧ x.f1 ≤ rooms.length
  price : ∀ x ∈ l, 0 ≤ x.f2 ∧ x.f2 ≤ 1000000
theorem withinB_iff {n a b : Int} : withinB n a b = true ↔ a ≤ n ∧ n ≤ b := by
  simp [withinB]
theorem bad1_false {x : S47} : bad1 x = false ↔ (0 ≤ x.f0 ∧ x.f0 < x.f1 ∧ x.f1 ≤ 60 ∧ 0 ≤ x.f2 ∧ x.f2 ≤ 1000000) := by
  simp only [bad1, badB, Bool.or_eq_false_iff, Bool.not_eq_false', withinB_iff]
  constructor
  · rintro ⟨⟨h1, h2⟩, ⟨h3, h4⟩, h5, h6⟩
    have : wrap64 (x.f1 - 1) = x.f1 - 1 := by unfold wrap64; omega
    rw [this] at h4
    omega
  · rintro ⟨h1, h2, h3, h4, h5⟩
    have : wrap64 (x.f1 - 1) = x.f1 - 1 := by unfold wrap64; omega
    rw [this]
    omega
theorem areB_iff {l : List S47} : areB l = true ↔ l.length ≤ 40 ∧ ∀ x ∈ l, 0 ≤ x.f0 ∧ x.f0 < x.f1 ∧ x.f1 ≤ 60 ∧ 0 ≤ x.f2 ∧ x.f2 ≤ 1000000 := by
  simp only [areB, Bool.and_eq_true, decide_eq_true_eq, Bool.not_eq_true', List.any_eq_false]
  constructor
  · rintro ⟨h1, h2⟩
    exact ⟨h1, fun x hx => bad1_false.1 (by simpa using h2 x hx)⟩
  · rintro ⟨h1, h2⟩
    exact ⟨h1, fun x hx => by simpa using bad1_false.2 (h2 x hx)⟩
theorem checkB_iff {l : List S47} {rooms : List Int} : checkB l rooms = true ↔ Good l rooms := by
  simp only [checkB, Bool.and_eq_true, areB_iff, withinB_iff, Bool.not_eq_true', Bool.or_eq_false_iff, List.any_eq_false]
  constructor
  · rintro ⟨⟨⟨h1, h2⟩, h3, h4⟩, h5, h6⟩
    refine ⟨h1, ⟨by omega, by omega⟩, fun n hn => ?_, fun x hx => ?_, fun x hx => ?_⟩
    · have := h5 n hn
      simp only [outB, Bool.not_eq_true', Bool.not_eq_false, withinB_iff] at this
      simpa using this
    · have := h2 x hx
      have h7 := h6 x hx
      simp only [decide_eq_true_eq] at h7
      omega
    · have := h2 x hx
      omega
  · rintro ⟨h1, h2, h3, h4, h5⟩
    refine ⟨⟨⟨h1, fun x hx => ?_⟩, by omega, by omega⟩, fun n hn => ?_, fun x hx => ?_⟩
    · have := h4 x hx
      have := h5 x hx
      omega
    · have := h3 n hn
      simp only [outB, Bool.not_eq_true', Bool.not_eq_false, withinB_iff]
      exact this
    · have := h4 x hx
      simp only [decide_eq_true_eq]
      omega
set_option maxRecDepth 100000 in
set_option maxHeartbeats 1600000 in
theorem Accept_c (A : Option Addr) (c : Nat) (l : List S47) (A1 : Option Addr) (c1 k : Nat) (rooms : List Int) (tk pr : List Int) (n : Int) (w : World) (hr : Kd.C k47 w A l.length l) (hcc : l.length ≤ c) (hr1 : Kd.C (Kd.int .i64) w A1 rooms.length rooms)
    (hg : Good l rooms) (h : bestF k l rooms = some (tk, pr, n)) :
    Calls Try.prog 30 #[.slice A l.length c, .slice A1 rooms.length c1] w fun e w' => ∃ v1 v2, e = .returned (.tuple #[.agg #[v1, v2], .int .i64 n, .int .i64 0]) ∧
      w'.ownsRow w.heap.size 3 1 v1 tk.length (ints tk) ∧ w'.ownsRow w.heap.size 3 1 v2 pr.length (ints pr) ∧ (∀ k, v1.ownBlock = some k → v2.ownBlock ≠ some k) ∧ Below w.heap.size w w' := by
  have hB1 := (Below.refl w.heap.size w).alloc (Nat.le_refl _) (Obj.cells #[Value.slice none 0 0, Value.slice none 0 0] 39)
  have hch := check_c A c l A1 c1 rooms _ (Kd.C_below hr hB1) (Kd.C_below hr1 hB1)
  rw [checkB_iff.2 hg, okE_t] at hch
  have HCH := Lib.hid hch
  have HR := Lib.hid hr
  have HR1 := Lib.hid hr1
  have HB1 := Lib.hid hB1
  have HG := Lib.hid hg
  have HH := Lib.hid h
  clear hch hr hr1 hB1 hg h
  go_enter Try.func30, Try.ntmps30
  go_wp2_with fail
  refine HCH.out.mono ?_
  rintro e w1 ⟨rfl, hBW1⟩
  have hs0 : (w.alloc (Obj.cells #[Value.slice none 0 0, Value.slice none 0 0] 39)).heap.size = w.heap.size + 1 := by simp
  rw [hs0] at hBW1
  have hz1 := hBW1.size
  have hc0 : w1.heap[w.heap.size]? = some (.cells #[Value.slice none 0 0, Value.slice none 0 0] 39 (0, 0)) := by rw [hBW1.block _ (by omega), heap_alloc_new]
  have HW1 : Below w.heap.size w w1 := HB1.out.trans (hBW1.mono (by omega))
  have hbe := best_c A c l A1 c1 k rooms tk pr n w1 (Kd.C_below HR.out HW1) hcc (Kd.C_below HR1.out HW1) (by have := HG.out.many; omega) (by have := HG.out.nights; omega) HG.out.nights.1 (fun x hx => HG.out.from_ x hx) HH.out
  have HBE := Lib.hid hbe
  have HC0 := Lib.hid hc0
  clear hbe hc0
  go_wp2_with fail
  refine HBE.out.mono ?_
  rintro e w2 ⟨v1, v2, rfl, ho1, ho2, hne, hBW2⟩
  have HO1 := Lib.hid ho1
  have HO2 := Lib.hid ho2
  obtain ⟨X1, y1, rfl⟩ := own_slice ho1
  obtain ⟨X2, y2, rfl⟩ := own_slice ho2
  clear ho1 ho2
  have hz2 := hBW2.size
  have hc2 : w2.heap[w.heap.size]? = some (.cells #[Value.slice none 0 0, Value.slice none 0 0] 39 (0, 0)) := by rw [hBW2.block _ (by omega)]; exact HC0.out
  have z3 : (w2.alloc (Obj.cells #[.slice X1 tk.length y1, .slice X2 pr.length y2] 39)).cell? ⟨w.heap.size, 0, none⟩ = some (.slice none 0 0) := by simp [World.cell?, Below.heap_alloc w2 _ w.heap.size (by omega), hc2]
  have z4 : (w2.alloc (Obj.cells #[.slice X1 tk.length y1, .slice X2 pr.length y2] 39)).cell? ⟨w.heap.size, 1, none⟩ = some (.slice none 0 0) := by simp [World.cell?, Below.heap_alloc w2 _ w.heap.size (by omega), hc2]
  have z5 : (w2.alloc (Obj.cells #[.slice X1 tk.length y1, .slice X2 pr.length y2] 39)).frozen? ⟨w.heap.size, 0, none⟩ = false := by simp [World.frozen?, Below.heap_alloc w2 _ w.heap.size (by omega), hc2]
  have z6 : (w2.alloc (Obj.cells #[.slice X1 tk.length y1, .slice X2 pr.length y2] 39)).frozen? ⟨w.heap.size, 1, none⟩ = false := by simp [World.frozen?, Below.heap_alloc w2 _ w.heap.size (by omega), hc2]
  have hnn : (w2.heap.size = w.heap.size) = False := by simp; omega
  have HZ := Lib.hid hc2
  clear hc2
  go_wp2_with fail
  have hb : (w2.alloc (Obj.cells #[.slice X1 tk.length y1, .slice X2 pr.length y2] 39)).heap[w.heap.size]? = some (.cells #[Value.slice none 0 0, Value.slice none 0 0] 39 (0, 0)) := by rw [Below.heap_alloc w2 _ w.heap.size (by omega)]; exact HZ.out
  have hbel : Below w.heap.size w (w2.alloc (Obj.cells #[.slice X1 tk.length y1, .slice X2 pr.length y2] 39)) := (HW1.trans (hBW2.mono (by omega))).alloc (by omega) _
  have hO1 : (w2.alloc (Obj.cells #[.slice X1 tk.length y1, .slice X2 pr.length y2] 39)).ownsRow w1.heap.size 3 1 (.slice X1 tk.length y1) tk.length (ints tk) := own_move HO1.out (fun k hk => Below.heap_alloc _ _ _ (HO1.out.lt k hk).2)
  have hO2 : (w2.alloc (Obj.cells #[.slice X1 tk.length y1, .slice X2 pr.length y2] 39)).ownsRow w1.heap.size 3 1 (.slice X2 pr.length y2) pr.length (ints pr) := own_move HO2.out (fun k hk => Below.heap_alloc _ _ _ (HO2.out.lt k hk).2)
  generalize w2.alloc (Obj.cells #[.slice X1 tk.length y1, .slice X2 pr.length y2] 39) = W at hb hbel hO1 hO2 ⊢
  have hq1 : ((W.setCell ⟨w.heap.size, 0, none⟩ (.slice X1 tk.length y1)).setCell ⟨w.heap.size, 1, none⟩ (.slice X2 pr.length y2)).cell? ⟨w.heap.size, 0, none⟩ = some (.slice X1 tk.length y1) := by
    simp [World.cell?, World.setCell, Array.getElem?_modify, hb]
  have hq2 : ((W.setCell ⟨w.heap.size, 0, none⟩ (.slice X1 tk.length y1)).setCell ⟨w.heap.size, 1, none⟩ (.slice X2 pr.length y2)).cell? ⟨w.heap.size, 1, none⟩ = some (.slice X2 pr.length y2) := by
    simp [World.cell?, World.setCell, Array.getElem?_modify, hb]
  have mv : ∀ {v : Value} {xs : List Value} {n : Nat}, W.ownsRow w1.heap.size 3 1 v n xs → ((W.setCell ⟨w.heap.size, 0, none⟩ (.slice X1 tk.length y1)).setCell ⟨w.heap.size, 1, none⟩ (.slice X2 pr.length y2)).ownsRow w.heap.size 3 1 v n xs := fun h => by
    refine own_weaken (own_move h (fun k hk => ?_)) (by omega)
    have := h.lt k hk
    rw [Below.heap_setCell _ _ _ _ (by show k ≠ w.heap.size; omega), Below.heap_setCell _ _ _ _ (by show k ≠ w.heap.size; omega)]
  refine bodyPost_ret (v := .tuple #[.agg #[.slice X1 tk.length y1, .slice X2 pr.length y2], .int .i64 n, .int .i64 0]) (by simp [results, Try.results30, go_sem, hq1, hq2]) rfl ⟨_, _, rfl, mv hO1, mv hO2, hne, ?_⟩
  exact (hbel.setCell (p := ⟨w.heap.size, 0, none⟩) (Nat.le_refl _) _).setCell (p := ⟨w.heap.size, 1, none⟩) (Nat.le_refl _) _
set_option maxRecDepth 100000 in
set_option maxHeartbeats 1600000 in
theorem clone_c (A : Option Addr) (c : Nat) (l : List Int) (w : World) (hr : Kd.C (Kd.int .i64) w A l.length l) (hcc : l.length ≤ c) (hl : l.length ≤ 1000) :
    Calls Try.prog 43 #[.slice A l.length c] w fun e w' => ∃ v, e = .returned v ∧ w'.ownsRow w.heap.size 3 1 v l.length (ints l) ∧ Below w.heap.size w w' := by
  obtain ⟨i0, hi0, hz0, hz1, hz2⟩ := info_parts info3
  have HR := Lib.hid hr
  clear hr
  have q23 : ∀ (w : World) (a : Option Addr) (n c n' c' : Nat), (binOp .eql 23 (.slice a n c) (.slice none n' c')).run Try.prog w = .ok (.bool a.isNone) w := fun w a n c n' c' => Lib.run_eql_slice_nil w _ _ a n c n' c' Try.underlying23
  cases A with
  | none =>
    obtain rfl : l = [] := by
      cases l with
      | nil => rfl
      | cons x xs => exact absurd (HR.out.2.2 (by simp)) (by simp)
    go_enter Try.func43, Try.ntmps43
    go_wp2_with fail
    go_ret
    exact ⟨_, rfl, own_nil _ _ _ _, Below.refl _ _⟩
  | some ad =>
    have hown0 : (w.alloc (Obj.cells #[] 3)).ownsRow w.heap.size 3 1 (.slice (some ⟨w.heap.size, 0, none⟩) 0 0) 0 [] :=
      ⟨rfl, .inr ⟨w.heap.size, 0, #[], rfl, Nat.le_refl _, heap_alloc_new _ _, Nat.le_refl _, Nat.zero_le _, rfl, rfl⟩⟩
    have HO0 := Lib.hid hown0
    clear hown0
    go_enter Try.func43, Try.ntmps43
    go_wp2_with (at_builtin; refine Kd.R_append_rows (Kd.int .i64) (w0 := w) w.heap.size rfl (.tmp 5) (.tmp 6) 23 3 (.int .i64 0) 8 rfl Try.underlying23 info3 rfl (by decide) (by omega) _ ([] : List Int) l _ _ _ (fun _ => True) (fun _ => False) rfl rfl ?aO ?aR (fun _ _ h => h) (fun _ h => h.elim) (fun _ _ => trivial) ?aB ?aS ?aL ?_)
    case aO => exact Kd.R_of_own HO0.out (fun _ _ => trivial)
    case aR => exact Kd.C_below HR.out ((Below.refl _ _).alloc (Nat.le_refl _) _)
    case aB => exact (Below.refl _ _).alloc (Nat.le_refl _) _
    case aS => simp
    case aL => simp; omega
    intro v1 w1 ho hb hg hat
    go_wp2_with fail
    go_ret
    exact ⟨_, rfl, Kd.own_of_R ho, hb⟩
end Go.Proofs.Ytpjobcnfjpbaeaa.A

set_option linter.unusedVariables false
set_option linter.unusedSimpArgs false
namespace Go.Proofs.Ytpjobcnfjpbaeaa.M
open Go.RowKit Go.Proofs.YtpjobcnfjpbaeaaW.PrintWords Go.Proofs.YtpjobcnfjpbaeaaW.PrintLast Go.Proofs.YtpjobcnfjpbaeaaW.PrintMore
open Go.Proofs.Ytpjobcnfjpbaeaa.PA Go.Proofs.Ytpjobcnfjpbaeaa.A
theorem Rep.push {P : Pairs} {φ : Nat → Int} {arcs : List S106} (h : Rep P φ arcs) (f t : Nat) (g c y r : Int) (hr : r = c - y) (hg : -1000000 ≤ g ∧ g ≤ 1000000) : Rep (P.push f t g c) (upd φ P.n y) (addF arcs f t r g y) := by
  have hw : IntKind.i64.wrap (-g) = -g := by rw [i64_w]; unfold wrap64; omega
  have hl := h.len
  subst hr
  unfold addF
  rw [hw]
  refine ⟨by simp [Pairs.push, hl]; omega, fun j hj => ?_, fun j hj => ?_⟩
  · simp only [Pairs.push] at hj ⊢
    by_cases e : j = P.n
    · subst e
      simp only [upd_same]
      rw [List.getElem?_append_right (by omega), hl]
      simp
    · simp only [upd_ne e]
      rw [List.getElem?_append_left (by omega)]
      exact h.fwd j (by omega)
  · simp only [Pairs.push] at hj ⊢
    by_cases e : j = P.n
    · subst e
      simp only [upd_same]
      rw [List.getElem?_append_right (by omega), hl, show 2 * P.n + 1 - 2 * P.n = 1 by omega]
      simp
    · simp only [upd_ne e]
      rw [List.getElem?_append_left (by omega)]
      exact h.bwd j (by omega)
theorem Rep.congr {P Q : Pairs} {φ : Nat → Int} {arcs : List S106} (h : Rep P φ arcs) (hn : Q.n = P.n) (h1 : ∀ j, j < P.n → Q.F j = P.F j ∧ Q.T j = P.T j ∧ Q.g j = P.g j ∧ Q.c j = P.c j) : Rep Q φ arcs := by
  refine ⟨by rw [hn]; exact h.len, fun j hj => ?_, fun j hj => ?_⟩
  · obtain ⟨a, b, c, d⟩ := h1 j (by omega); rw [a, b, c, d]; exact h.fwd j (by omega)
  · obtain ⟨a, b, c, d⟩ := h1 j (by omega); rw [a, b, c]; exact h.bwd j (by omega)
end Go.Proofs.Ytpjobcnfjpbaeaa.M

set_option linter.unusedVariables false
set_option linter.unusedSimpArgs false
namespace Go.Proofs.Ytpjobcnfjpbaeaa.M
open Go.RowKit Go.Proofs.YtpjobcnfjpbaeaaW.PrintWords Go.Proofs.YtpjobcnfjpbaeaaW.PrintLast Go.Proofs.YtpjobcnfjpbaeaaW.PrintMore
open Go.Proofs.Ytpjobcnfjpbaeaa.PA Go.Proofs.Ytpjobcnfjpbaeaa.A
structure Asc (L : Nat) (tk : List Int) : Prop where
  asc : tk.Pairwise (· < ·)
  rng : ∀ x, x ∈ tk → 0 ≤ x ∧ x < L
theorem Asc.tail {L : Nat} {x : Int} {tk : List Int} (h : Asc L (x :: tk)) : Asc L tk := ⟨(List.pairwise_cons.1 h.asc).2, fun y hy => h.rng y (List.mem_cons_of_mem _ hy)⟩
theorem Inst.Fit.congr {I : Inst} {X Y : Nat → Int} (h : I.Fit X) (e : ∀ i, i < I.L → Y i = X i) : I.Fit Y := by
  refine ⟨fun i hi => by rw [e i hi]; exact h.one i hi, fun k hk => ?_⟩
  rw [sumTo_congr (g := fun i => X i * I.cov i k) (fun i hi => by rw [e i hi])]
  exact h.fit k hk
end Go.Proofs.Ytpjobcnfjpbaeaa.M

set_option linter.unusedVariables false
set_option linter.unusedSimpArgs false
namespace Go.Proofs.Ytpjobcnfjpbaeaa.M
open Go.RowKit Go.Proofs.YtpjobcnfjpbaeaaW.PrintWords Go.Proofs.YtpjobcnfjpbaeaaW.PrintLast Go.Proofs.YtpjobcnfjpbaeaaW.PrintMore
open Go.Proofs.Ytpjobcnfjpbaeaa.PA
theorem RepT.push {P : Pairs} {arcs : List S74} (h : RepT P (fun _ => 0) arcs) (f t : Nat) (g c : Int) : RepT (P.push f t g c) (fun _ => 0) (arcs ++ [⟨f, t, c, -g⟩, ⟨t, f, 0, g⟩]) := by
  have hl := h.len
  refine ⟨by simp [Pairs.push, hl]; omega, fun j hj => ?_, fun j hj => ?_⟩
  · simp only [Pairs.push] at hj ⊢
    by_cases e : j = P.n
    · subst e
      simp only [upd_same]
      rw [List.getElem?_append_right (by omega), hl]
      simp
    · simp only [upd_ne e]
      rw [List.getElem?_append_left (by omega)]
      exact h.fwd j (by omega)
  · simp only [Pairs.push] at hj ⊢
    by_cases e : j = P.n
    · subst e
      simp only [upd_same]
      rw [List.getElem?_append_right (by omega), hl, show 2 * P.n + 1 - 2 * P.n = 1 by omega]
      simp
    · simp only [upd_ne e]
      rw [List.getElem?_append_left (by omega)]
      exact h.bwd j (by omega)
def d0 (I : Inst) : Nat → Int := fun v => if v ≤ I.n then (v : Int) * 1000000 else if v = I.n + 1 then 0 else 1000000000
end Go.Proofs.Ytpjobcnfjpbaeaa.M

set_option linter.unusedVariables false
set_option linter.unusedSimpArgs false
namespace Go.Proofs.Ytpjobcnfjpbaeaa.A
open Go.RowKit Go.Proofs.YtpjobcnfjpbaeaaW.PrintWords Go.Proofs.YtpjobcnfjpbaeaaW.PrintLast Go.Proofs.YtpjobcnfjpbaeaaW.PrintMore
open Go.Proofs.Ytpjobcnfjpbaeaa.PA
def lessF : Nat → Nat → List Int → Option (List Int)
  | 0, _, xs => some xs
  | k + 1, t, xs => if xs.getD t 0 = 0 then none else lessF k (t + 1) (xs.set t (wrap64 (xs.getD t 0 - 1)))
def quoteF (k : Nat) (l : List S47) (rooms : List Int) (fr till : Int) : Option (Int × Int) :=
  if checkB l rooms && (withinB till 1 rooms.length && withinB fr 0 (wrap64 (till - 1))) then
    match lessF (till.toNat - fr.toNat) fr.toNat rooms with
    | none => some (0, 6)
    | some less => (bestF k l rooms).bind fun a => (bestF k l less).bind fun b => some (wrap64 (a.2.2 - b.2.2), 0)
  else some (0, 2)
set_option maxRecDepth 100000 in
set_option maxHeartbeats 3200000 in
theorem Quote_c (A : Option Addr) (c : Nat) (l : List S47) (A1 : Option Addr) (c1 k : Nat) (rooms : List Int) (f t : Int) (n e : Int) (w : World) (hr : Kd.C k47 w A l.length l) (hcc : l.length ≤ c) (hr1 : Kd.C (Kd.int .i64) w A1 rooms.length rooms) (hcc1 : rooms.length ≤ c1)
    (h : quoteF k l rooms f t = some (n, e)) :
    Calls Try.prog 16 #[.slice A l.length c, .slice A1 rooms.length c1, .int .i64 f, .int .i64 t] w fun r w' => r = .returned (.tuple #[.int .i64 n, .int .i64 e]) ∧ Below w.heap.size w w' := by
  have hch := check_c A c l A1 c1 rooms w hr hr1
  have HCH := Lib.hid hch
  have HR := Lib.hid hr
  have HR1 := Lib.hid hr1
  clear hch hr hr1
  have w1 := fun w => within_c t 1 rooms.length w
  have w2 := fun w => within_c f 0 (wrap64 (t - 1)) w
  have HW1 := Lib.hid w1
  have HW2 := Lib.hid w2
  clear w1 w2
  unfold quoteF at h
  cases hc : checkB l rooms with
  | false =>
    simp [hc] at h
    obtain ⟨rfl, rfl⟩ := h
    rw [hc, okE_f] at HCH
    clear hc
    go_enter Try.func16, Try.ntmps16
    go_wp2_with fail
    refine HCH.out.mono ?_
    rintro e w1 ⟨rfl, hBW1⟩
    go_wp2_with fail
    exact bodyPost_ret (v := .tuple #[.int .i64 0, .int .i64 2]) (by simp [results, Try.results16, go_sem]) rfl ⟨rfl, hBW1⟩
  | true =>
    have hg := checkB_iff.1 hc
    rw [hc, okE_t] at HCH
    rw [hc, Bool.true_and] at h
    cases h1 : withinB t 1 rooms.length with
    | false =>
      simp [h1] at h
      obtain ⟨rfl, rfl⟩ := h
      rw [h1] at HW1
      clear hc h1
      go_enter Try.func16, Try.ntmps16
      go_wp2_with fail
      refine HCH.out.mono ?_
      rintro e w1 ⟨rfl, hBW1⟩
      go_wp2_with fail
      refine (HW1.out _).mono ?_
      rintro e w2 ⟨rfl, rfl⟩
      go_wp2_with fail
      exact bodyPost_ret (v := .tuple #[.int .i64 0, .int .i64 2]) (by simp [results, Try.results16, go_sem]) rfl ⟨rfl, hBW1⟩
    | true =>
      rw [h1, Bool.true_and] at h
      cases h2 : withinB f 0 (wrap64 (t - 1)) with
      | false =>
        simp [h2] at h
        obtain ⟨rfl, rfl⟩ := h
        rw [h1] at HW1
        rw [h2] at HW2
        clear hc h1 h2
        go_enter Try.func16, Try.ntmps16
        go_wp2_with fail
        refine HCH.out.mono ?_
        rintro e w1 ⟨rfl, hBW1⟩
        go_wp2_with fail
        refine (HW1.out _).mono ?_
        rintro e w2 ⟨rfl, rfl⟩
        go_wp2_with fail
        refine (HW2.out _).mono ?_
        rintro e w2 ⟨rfl, rfl⟩
        go_wp2_with fail
        exact bodyPost_ret (v := .tuple #[.int .i64 0, .int .i64 2]) (by simp [results, Try.results16, go_sem]) rfl ⟨rfl, hBW1⟩
      | true =>
        rw [h2, if_pos rfl] at h
        rw [h1] at HW1
        rw [h2] at HW2
        obtain ⟨h3, h4⟩ := withinB_iff.1 h1
        obtain ⟨h5, h6⟩ := withinB_iff.1 h2
        have hn := hg.nights
        have h7 : wrap64 (t - 1) = t - 1 := by unfold wrap64; omega
        rw [h7] at h6
        obtain ⟨f, rfl⟩ := Int.eq_ofNat_of_zero_le h5
        obtain ⟨t, rfl⟩ := Int.eq_ofNat_of_zero_le (show (0 : Int) ≤ t from by omega)
        simp only [Int.toNat_natCast] at h
        have HG := Lib.hid hg
        have HH := Lib.hid h
        have hN : f < t ∧ t ≤ rooms.length ∧ rooms.length ≤ 60 := by omega
        have HN := Lib.hid hN
        have hl1 : rooms.length ≤ 1000 := by omega
        clear hc h1 h2 h hg h3 h4 h5 h6 h7 hn hN
        go_enter Try.func16, Try.ntmps16
        go_wp2_with fail
        refine HCH.out.mono ?_
        rintro e w1 ⟨rfl, hBW1⟩
        go_wp2_with fail
        refine (HW1.out _).mono ?_
        rintro e w2 ⟨rfl, rfl⟩
        go_wp2_with fail
        refine (HW2.out _).mono ?_
        rintro e w2 ⟨rfl, rfl⟩
        have hcl := clone_c A1 c1 rooms w1 (Kd.C_below HR1.out hBW1) hcc1 hl1
        have HCL := Lib.hid hcl
        clear hcl
        go_wp2_with fail
        refine HCL.out.mono ?_
        rintro e w2 ⟨v, rfl, hown, hBW2⟩
        have hR0 : Kd.R (Kd.int .i64) 3 w2 w1.heap.size (fun _ => True) v rooms := Kd.R_of_own hown (fun _ _ => trivial)
        obtain ⟨g, cap, rfl, hg1, hg2, -⟩ := Kd.R_form hR0 HG.out.nights.1
        have HR0 := Lib.hid hR0
        clear hown hR0
        go_wp2_with fail
        go_loopw [12] (fun v wr => ∃ (q : Nat) (xs : List Int), v = .int .i64 (q : Int) ∧ Hid (f ≤ q ∧ q ≤ t ∧ xs.length = rooms.length) ∧ Hid (lessF (t - q) q xs = lessF (t - f) f rooms) ∧
          Hid (Kd.R (Kd.int .i64) 3 wr w1.heap.size (fun _ => True) (.slice (some ⟨g, 0, none⟩) rooms.length cap) xs) ∧ Below w1.heap.size w1 wr) (fun v _ => t - (intOf v).toNat)
        case atStart => exact ⟨f, rooms, rfl, ⟨Nat.le_refl _, by have := HN.out; omega, rfl⟩, rfl, HR0, hBW2⟩
        case round =>
          obtain ⟨q, xs, rfl, HQ, HL, HRq, hBq⟩ := hrel
          by_cases hlt : q < t
          · have hlt' : (q : Int) < t := by omega
            have hcl := Kd.R_celln (d := 0) HRq.out q (by omega) (by have := HN.out; omega)
            rw [Int.toNat_natCast] at hcl
            obtain ⟨z1, z2⟩ := hcl
            have hb1 : (q : Int) < rooms.length := by have := HN.out; omega
            have hb0 : (0 : Int) ≤ q := by omega
            have hq1 : wrap64 ((q : Int) + 1) = ((q + 1 : Nat) : Int) := by unfold wrap64; have := HN.out; omega
            have hst : lessF (t - q) q xs = if rdOf 0 xs q = 0 then none else lessF (t - (q + 1)) (q + 1) (xs.set q (wrap64 (rdOf 0 xs q - 1))) := by
              have : t - q = t - (q + 1) + 1 := by omega
              rw [this]
              rfl
            by_cases h0 : rdOf 0 xs q = 0
            · have h0' : (rdOf 0 xs q == 0) = true := by simpa using h0
              rw [if_pos h0, HL.out] at hst
              have hh := HH.out
              rw [hst] at hh
              simp only [Option.some.injEq, Prod.mk.injEq] at hh
              obtain ⟨rfl, rfl⟩ := hh
              clear hst
              go_wp2_with fail
              exact bodyPost_ret (v := .tuple #[.int .i64 0, .int .i64 6]) (by simp [results, Try.results16, go_sem]) rfl ⟨rfl, hBW1.trans (hBq.mono hBW1.size)⟩
            · have h0' : (rdOf 0 xs q == 0) = false := by simpa using h0
              rw [if_neg h0, HL.out] at hst
              have HST := Lib.hid hst
              clear hst
              go_wp2_with fail
              refine ⟨⟨q + 1, xs.set q (wrap64 (rdOf 0 xs q - 1)), by simp, ?_, HST.out.symm, ?_, hBq.setCell (p := ⟨g, q, none⟩) hg1 _⟩, by simp [intOf]; omega⟩
              · have h := HQ.out
                exact ⟨by omega, by omega, by rw [List.length_set]; exact h.2.2⟩
              · exact Kd.R_putn HRq.out q _
          · obtain rfl : q = t := by have := HQ.out; omega
            have hx := HL.out
            rw [Nat.sub_self] at hx
            have hh := HH.out
            rw [← hx] at hh
            simp only [lessF] at hh
            obtain ⟨⟨tk1, pr1, n1⟩, hb1, hh⟩ := Option.bind_eq_some_iff.1 hh
            obtain ⟨⟨tk2, pr2, n2⟩, hb2, hh⟩ := Option.bind_eq_some_iff.1 hh
            simp only [Option.some.injEq, Prod.mk.injEq] at hh
            obtain ⟨rfl, rfl⟩ := hh
            have hBr : Below w.heap.size w wr := hBW1.trans (hBq.mono hBW1.size)
            have hxl := HQ.out.2.2
            have hc1 := best_c A c l A1 c1 k rooms tk1 pr1 n1 wr (Kd.C_below HR.out hBr) hcc (Kd.C_below HR1.out hBr) (by have := HG.out.many; omega) (by have := HG.out.nights; omega) HG.out.nights.1 (fun x hx => HG.out.from_ x hx) hb1
            have HC1 := Lib.hid hc1
            have HB2 := Lib.hid hb2
            clear hc1 hx hb1 hb2
            go_wp2_with fail
            refine HC1.out.mono ?_
            rintro e w3 ⟨v1, v2, rfl, ho1, ho2, hne, hBW3⟩
            obtain ⟨X1, y1, rfl⟩ := own_slice ho1
            obtain ⟨X2, y2, rfl⟩ := own_slice ho2
            have hB3 : Below wr.heap.size wr (w3.alloc (Obj.cells #[Value.slice X1 tk1.length y1, Value.slice X2 pr1.length y2] 39)) := hBW3.alloc hBW3.size _
            have hxr := Kd.R_reads' HRq.out
            rw [hxl] at hxr
            have hc2 := best_c A c l (some ⟨g, 0, none⟩) cap k xs tk2 pr2 n2 _ (Kd.C_below HR.out (hBr.trans (hB3.mono hBr.size))) hcc (by rw [hxl]; exact Kd.C_below hxr.2.2 hB3) (by have := HG.out.many; omega) (by have := HG.out.nights; omega) (by have := HG.out.nights.1; omega) (fun x hx => by rw [hxl]; exact HG.out.from_ x hx) HB2.out
            rw [hxl] at hc2
            have HC2 := Lib.hid hc2
            have HB3 := Lib.hid hB3
            clear hc2 hB3 ho1 ho2 hne hxr
            go_wp2_with fail
            refine HC2.out.mono ?_
            rintro e w4 ⟨v1, v2, rfl, ho1, ho2, hne, hBW4⟩
            obtain ⟨X3, y3, rfl⟩ := own_slice ho1
            obtain ⟨X4, y4, rfl⟩ := own_slice ho2
            clear ho1 ho2 hne
            go_wp2_with fail
            refine bodyPost_ret (v := .tuple #[.int .i64 (wrap64 (n1 - n2)), .int .i64 0]) (by simp [results, Try.results16, go_sem]) rfl ⟨rfl, ?_⟩
            have hB4 : Below w.heap.size w w4 := (hBr.trans (HB3.out.mono hBr.size)).trans (hBW4.mono (by have := (hBr.trans (HB3.out.mono hBr.size)).size; exact this))
            exact hB4.alloc hB4.size _
end Go.Proofs.Ytpjobcnfjpbaeaa.A

namespace Go.Proofs.Ytpjobcnfjpbaeaa.PA
open Go.RowKit Go.Proofs.YtpjobcnfjpbaeaaW.PrintWords Go.Proofs.YtpjobcnfjpbaeaaW.PrintLast Go.Proofs.YtpjobcnfjpbaeaaW.PrintMore
attribute [local go_sem] max2_int min2_int max_two min_two max_three min_three max_four min_four
set_option linter.unusedVariables false
set_option linter.unusedSimpArgs false
def turndownref08_Bookings.l0 : Nat → List (S47) → Int → Option (Bool)
  | 0, _, _ => none
  | k + 1, x0, x3 => if x3 < (x0.length : Int) then (if 0 ≤ x3 then (if ((rd_T47 x0 x3).f0) < 0 then (some false) else (if ((rd_T47 x0 x3).f1) > 60 then (some false) else (if ((rd_T47 x0 x3).f0) ≥ ((rd_T47 x0 x3).f1) then (some false) else (if ((rd_T47 x0 x3).f2) < 0 then (some false) else (if ((rd_T47 x0 x3).f2) > 1000000 then (some false) else (turndownref08_Bookings.l0 k x0 (wrap64 (x3 + 1)))))))) else (none)) else (some (decide ((x0.length : Int) ≤ 40)))
def turndownref08_Bookings.f (k : Nat) (l0 : List (S47)) : Option (Bool) := turndownref08_Bookings.l0 k l0 0
set_option maxHeartbeats 8000000 in
set_option maxRecDepth 100000 in
theorem turndownref08_Bookings.calls (k : Nat) (A0 : Option Addr) (c0 : Nat) (l0 : List (S47)) (r : Bool) (w : World) (hr0 : Kd.C k47 w A0 l0.length l0) (hc0 : l0.length ≤ c0) (h : turndownref08_Bookings.f k l0 = some r) :
    Calls Try.prog 17 #[.slice A0 l0.length c0] w fun e w' => e = .returned (.bool r) ∧ Below w.heap.size w w' := by
  have hu47 := Try.underlying47
  have HR0 := Aside0.mk hr0
  have HC0 := Aside0.mk hc0
  clear hr0 hc0
  have HB := Aside0.mk (Below.refl w.heap.size w)
  have H : (turndownref08_Bookings.l0 k l0 0) = some r := h
  clear h
  have H' := Aside0.mk H
  clear H
  go_enter Try.func17, Try.ntmps17
  go_wp2
  go_loopg [3] k (fun kq v3 w' => ∃ (x3_1 : Int), v3 = .int .i64 x3_1 ∧ Aside0 (turndownref08_Bookings.l0 kq l0 x3_1 = some r) ∧ Aside0 (kq ≤ k) ∧ Aside0 (Below w.heap.size w w'))
  case atStart => exact ⟨(0), (by first | rfl | (simp; done) | (simp [*]; done)), H', ⟨Nat.le_refl _⟩, ⟨by repeat (first | (with_reducible first | exact HB.out | apply below_alloc | apply pw_below_drewN | apply below_drew1) | exact HB.out)⟩⟩
  case round =>
    clear H'
    try clear c1
    obtain ⟨x3_1, rfl, HA, HK1, HB⟩ := hrel
    cases gk with
    | zero => exact absurd HA.out (by simp [turndownref08_Bookings.l0])
    | succ k1 =>
      have H := HA.out
      clear HA
      simp only [turndownref08_Bookings.l0] at H
      by_cases c2 : x3_1 < (l0.length : Int)
      · rw [if_pos c2] at H
        have c2b0 : decide (x3_1 < (l0.length : Int)) = true := decide_eq_true c2
        clear c2
        by_cases c3 : 0 ≤ x3_1
        · rw [if_pos c3] at H
          have c3b0 : decide (0 ≤ x3_1) = true := decide_eq_true c3
          clear c3
          by_cases c4 : ((rd_T47 l0 x3_1).f0) < 0
          · rw [if_pos c4] at H
            have c4b0 : decide (((rd_T47 l0 x3_1).f0) < 0) = true := decide_eq_true c4
            clear c4
            obtain rfl := Option.some.inj H
            have p143 : 0 ≤ (x3_1 : Int) := of_decide_eq_true (by first | (with_reducible assumption) | assumption)
            have q143 : x3_1 < (l0.length : Int) := of_decide_eq_true (by first | (with_reducible assumption) | assumption)
            obtain ⟨ad143, e143, hx143_0, hx143_1, hx143_2⟩ := at_T47 HR0.out x3_1 p143 q143
            cases e143
            replace hx143_0 := (HB.out.cell (World.block_lt_of_cell? w _ hx143_0)).trans hx143_0
            replace hx143_1 := (HB.out.cell (World.block_lt_of_cell? w _ hx143_1)).trans hx143_1
            replace hx143_2 := (HB.out.cell (World.block_lt_of_cell? w _ hx143_2)).trans hx143_2
            replace p143 := eq_true p143
            replace q143 := eq_true q143
            go_wp2_with (first | ((with_reducible refine gate_dst (N := 4) rfl ?_); refine box_event ?hg (N := 4) ?hd (cs := #[.int .i64 0, .int .i64 0, .int .i64 0]) (t := 47) ?hr ?_; (case hd => rfl); (case hg => rfl); (case hr => first | (go_simp; done) | (go_simp; rfl)); intro gb144 hg w5 hbox hb; have n0_ := Aside0.mk (below_step (by repeat (first | (with_reducible first | exact HB.out | apply below_alloc | apply pw_below_drewN | apply below_drew1) | exact HB.out)) hb); have n1_ := Aside0.mk (hbox); have n2_ := Aside0.mk ((by rw [hg]; exact (below_size (by repeat (first | (with_reducible first | exact HB.out | apply below_alloc | apply pw_below_drewN | apply below_drew1) | exact HB.out))) : w.heap.size ≤ gb144)); have n3_ := Aside0.mk ((by rw [hg]; exact (below_size (by repeat (first | (with_reducible first | exact HB.out | apply below_alloc | apply pw_below_drewN | apply below_drew1) | exact HB.out))) : w.heap.size ≤ gb144)); clear HB; have HB := n0_; have BK144 := n1_; have GW144 := n2_; have GE144 := n3_; clear n0_ n1_ n2_ n3_; clear hb hbox hg; have hcz6_0 : w5.cell? ⟨gb144, 0, none⟩ = some (.int .i64 0) := (blk_cell BK144.out 0).trans rfl; have hcz6_1 : w5.cell? ⟨gb144, 1, none⟩ = some (.int .i64 0) := (blk_cell BK144.out 1).trans rfl; have hcz6_2 : w5.cell? ⟨gb144, 2, none⟩ = some (.int .i64 0) := (blk_cell BK144.out 2).trans rfl; have hfz6_0 := blk_frozen BK144.out 0; have hfz6_1 := blk_frozen BK144.out 1; have hfz6_2 := blk_frozen BK144.out 2))
            go_ret
            exact ⟨by first | rfl | (simp [errW_none, errW_some] <;> rfl) | (simp [*, errW_none, errW_some] <;> rfl), by repeat (first | (with_reducible first | exact HB.out | apply below_alloc | apply pw_below_drewN | apply below_drew1 | refine below_set ?_ GE144.out) | exact HB.out)⟩
          · rw [if_neg c4] at H
            have c4b0 : decide (((rd_T47 l0 x3_1).f0) < 0) = false := decide_eq_false c4
            clear c4
            by_cases c7 : ((rd_T47 l0 x3_1).f1) > 60
            · rw [if_pos c7] at H
              have c7b0 : decide (60 < ((rd_T47 l0 x3_1).f1)) = true := decide_eq_true c7
              clear c7
              obtain rfl := Option.some.inj H
              have p143 : 0 ≤ (x3_1 : Int) := of_decide_eq_true (by first | (with_reducible assumption) | assumption)
              have q143 : x3_1 < (l0.length : Int) := of_decide_eq_true (by first | (with_reducible assumption) | assumption)
              obtain ⟨ad143, e143, hx143_0, hx143_1, hx143_2⟩ := at_T47 HR0.out x3_1 p143 q143
              cases e143
              replace hx143_0 := (HB.out.cell (World.block_lt_of_cell? w _ hx143_0)).trans hx143_0
              replace hx143_1 := (HB.out.cell (World.block_lt_of_cell? w _ hx143_1)).trans hx143_1
              replace hx143_2 := (HB.out.cell (World.block_lt_of_cell? w _ hx143_2)).trans hx143_2
              replace p143 := eq_true p143
              replace q143 := eq_true q143
              go_wp2_with (first | ((with_reducible refine gate_dst (N := 4) rfl ?_); refine box_event ?hg (N := 4) ?hd (cs := #[.int .i64 0, .int .i64 0, .int .i64 0]) (t := 47) ?hr ?_; (case hd => rfl); (case hg => rfl); (case hr => first | (go_simp; done) | (go_simp; rfl)); intro gb144 hg w8 hbox hb; have n0_ := Aside0.mk (below_step (by repeat (first | (with_reducible first | exact HB.out | apply below_alloc | apply pw_below_drewN | apply below_drew1) | exact HB.out)) hb); have n1_ := Aside0.mk (hbox); have n2_ := Aside0.mk ((by rw [hg]; exact (below_size (by repeat (first | (with_reducible first | exact HB.out | apply below_alloc | apply pw_below_drewN | apply below_drew1) | exact HB.out))) : w.heap.size ≤ gb144)); have n3_ := Aside0.mk ((by rw [hg]; exact (below_size (by repeat (first | (with_reducible first | exact HB.out | apply below_alloc | apply pw_below_drewN | apply below_drew1) | exact HB.out))) : w.heap.size ≤ gb144)); clear HB; have HB := n0_; have BK144 := n1_; have GW144 := n2_; have GE144 := n3_; clear n0_ n1_ n2_ n3_; clear hb hbox hg; have hcz9_0 : w8.cell? ⟨gb144, 0, none⟩ = some (.int .i64 0) := (blk_cell BK144.out 0).trans rfl; have hcz9_1 : w8.cell? ⟨gb144, 1, none⟩ = some (.int .i64 0) := (blk_cell BK144.out 1).trans rfl; have hcz9_2 : w8.cell? ⟨gb144, 2, none⟩ = some (.int .i64 0) := (blk_cell BK144.out 2).trans rfl; have hfz9_0 := blk_frozen BK144.out 0; have hfz9_1 := blk_frozen BK144.out 1; have hfz9_2 := blk_frozen BK144.out 2))
              go_ret
              exact ⟨by first | rfl | (simp [errW_none, errW_some] <;> rfl) | (simp [*, errW_none, errW_some] <;> rfl), by repeat (first | (with_reducible first | exact HB.out | apply below_alloc | apply pw_below_drewN | apply below_drew1 | refine below_set ?_ GE144.out) | exact HB.out)⟩
            · rw [if_neg c7] at H
              have c7b0 : decide (60 < ((rd_T47 l0 x3_1).f1)) = false := decide_eq_false c7
              clear c7
              by_cases c10 : ((rd_T47 l0 x3_1).f0) ≥ ((rd_T47 l0 x3_1).f1)
              · rw [if_pos c10] at H
                have c10b0 : decide (((rd_T47 l0 x3_1).f1) ≤ ((rd_T47 l0 x3_1).f0)) = true := decide_eq_true c10
                clear c10
                obtain rfl := Option.some.inj H
                have p143 : 0 ≤ (x3_1 : Int) := of_decide_eq_true (by first | (with_reducible assumption) | assumption)
                have q143 : x3_1 < (l0.length : Int) := of_decide_eq_true (by first | (with_reducible assumption) | assumption)
                obtain ⟨ad143, e143, hx143_0, hx143_1, hx143_2⟩ := at_T47 HR0.out x3_1 p143 q143
                cases e143
                replace hx143_0 := (HB.out.cell (World.block_lt_of_cell? w _ hx143_0)).trans hx143_0
                replace hx143_1 := (HB.out.cell (World.block_lt_of_cell? w _ hx143_1)).trans hx143_1
                replace hx143_2 := (HB.out.cell (World.block_lt_of_cell? w _ hx143_2)).trans hx143_2
                replace p143 := eq_true p143
                replace q143 := eq_true q143
                go_wp2_with (first | ((with_reducible refine gate_dst (N := 4) rfl ?_); refine box_event ?hg (N := 4) ?hd (cs := #[.int .i64 0, .int .i64 0, .int .i64 0]) (t := 47) ?hr ?_; (case hd => rfl); (case hg => rfl); (case hr => first | (go_simp; done) | (go_simp; rfl)); intro gb144 hg w11 hbox hb; have n0_ := Aside0.mk (below_step (by repeat (first | (with_reducible first | exact HB.out | apply below_alloc | apply pw_below_drewN | apply below_drew1) | exact HB.out)) hb); have n1_ := Aside0.mk (hbox); have n2_ := Aside0.mk ((by rw [hg]; exact (below_size (by repeat (first | (with_reducible first | exact HB.out | apply below_alloc | apply pw_below_drewN | apply below_drew1) | exact HB.out))) : w.heap.size ≤ gb144)); have n3_ := Aside0.mk ((by rw [hg]; exact (below_size (by repeat (first | (with_reducible first | exact HB.out | apply below_alloc | apply pw_below_drewN | apply below_drew1) | exact HB.out))) : w.heap.size ≤ gb144)); clear HB; have HB := n0_; have BK144 := n1_; have GW144 := n2_; have GE144 := n3_; clear n0_ n1_ n2_ n3_; clear hb hbox hg; have hcz12_0 : w11.cell? ⟨gb144, 0, none⟩ = some (.int .i64 0) := (blk_cell BK144.out 0).trans rfl; have hcz12_1 : w11.cell? ⟨gb144, 1, none⟩ = some (.int .i64 0) := (blk_cell BK144.out 1).trans rfl; have hcz12_2 : w11.cell? ⟨gb144, 2, none⟩ = some (.int .i64 0) := (blk_cell BK144.out 2).trans rfl; have hfz12_0 := blk_frozen BK144.out 0; have hfz12_1 := blk_frozen BK144.out 1; have hfz12_2 := blk_frozen BK144.out 2))
                go_ret
                exact ⟨by first | rfl | (simp [errW_none, errW_some] <;> rfl) | (simp [*, errW_none, errW_some] <;> rfl), by repeat (first | (with_reducible first | exact HB.out | apply below_alloc | apply pw_below_drewN | apply below_drew1 | refine below_set ?_ GE144.out) | exact HB.out)⟩
              · rw [if_neg c10] at H
                have c10b0 : decide (((rd_T47 l0 x3_1).f1) ≤ ((rd_T47 l0 x3_1).f0)) = false := decide_eq_false c10
                clear c10
                by_cases c13 : ((rd_T47 l0 x3_1).f2) < 0
                · rw [if_pos c13] at H
                  have c13b0 : decide (((rd_T47 l0 x3_1).f2) < 0) = true := decide_eq_true c13
                  clear c13
                  obtain rfl := Option.some.inj H
                  have p143 : 0 ≤ (x3_1 : Int) := of_decide_eq_true (by first | (with_reducible assumption) | assumption)
                  have q143 : x3_1 < (l0.length : Int) := of_decide_eq_true (by first | (with_reducible assumption) | assumption)
                  obtain ⟨ad143, e143, hx143_0, hx143_1, hx143_2⟩ := at_T47 HR0.out x3_1 p143 q143
                  cases e143
                  replace hx143_0 := (HB.out.cell (World.block_lt_of_cell? w _ hx143_0)).trans hx143_0
                  replace hx143_1 := (HB.out.cell (World.block_lt_of_cell? w _ hx143_1)).trans hx143_1
                  replace hx143_2 := (HB.out.cell (World.block_lt_of_cell? w _ hx143_2)).trans hx143_2
                  replace p143 := eq_true p143
                  replace q143 := eq_true q143
                  go_wp2_with (first | ((with_reducible refine gate_dst (N := 4) rfl ?_); refine box_event ?hg (N := 4) ?hd (cs := #[.int .i64 0, .int .i64 0, .int .i64 0]) (t := 47) ?hr ?_; (case hd => rfl); (case hg => rfl); (case hr => first | (go_simp; done) | (go_simp; rfl)); intro gb144 hg w14 hbox hb; have n0_ := Aside0.mk (below_step (by repeat (first | (with_reducible first | exact HB.out | apply below_alloc | apply pw_below_drewN | apply below_drew1) | exact HB.out)) hb); have n1_ := Aside0.mk (hbox); have n2_ := Aside0.mk ((by rw [hg]; exact (below_size (by repeat (first | (with_reducible first | exact HB.out | apply below_alloc | apply pw_below_drewN | apply below_drew1) | exact HB.out))) : w.heap.size ≤ gb144)); have n3_ := Aside0.mk ((by rw [hg]; exact (below_size (by repeat (first | (with_reducible first | exact HB.out | apply below_alloc | apply pw_below_drewN | apply below_drew1) | exact HB.out))) : w.heap.size ≤ gb144)); clear HB; have HB := n0_; have BK144 := n1_; have GW144 := n2_; have GE144 := n3_; clear n0_ n1_ n2_ n3_; clear hb hbox hg; have hcz15_0 : w14.cell? ⟨gb144, 0, none⟩ = some (.int .i64 0) := (blk_cell BK144.out 0).trans rfl; have hcz15_1 : w14.cell? ⟨gb144, 1, none⟩ = some (.int .i64 0) := (blk_cell BK144.out 1).trans rfl; have hcz15_2 : w14.cell? ⟨gb144, 2, none⟩ = some (.int .i64 0) := (blk_cell BK144.out 2).trans rfl; have hfz15_0 := blk_frozen BK144.out 0; have hfz15_1 := blk_frozen BK144.out 1; have hfz15_2 := blk_frozen BK144.out 2))
                  go_ret
                  exact ⟨by first | rfl | (simp [errW_none, errW_some] <;> rfl) | (simp [*, errW_none, errW_some] <;> rfl), by repeat (first | (with_reducible first | exact HB.out | apply below_alloc | apply pw_below_drewN | apply below_drew1 | refine below_set ?_ GE144.out) | exact HB.out)⟩
                · rw [if_neg c13] at H
                  have c13b0 : decide (((rd_T47 l0 x3_1).f2) < 0) = false := decide_eq_false c13
                  clear c13
                  by_cases c16 : ((rd_T47 l0 x3_1).f2) > 1000000
                  · rw [if_pos c16] at H
                    have c16b0 : decide (1000000 < ((rd_T47 l0 x3_1).f2)) = true := decide_eq_true c16
                    clear c16
                    obtain rfl := Option.some.inj H
                    have p143 : 0 ≤ (x3_1 : Int) := of_decide_eq_true (by first | (with_reducible assumption) | assumption)
                    have q143 : x3_1 < (l0.length : Int) := of_decide_eq_true (by first | (with_reducible assumption) | assumption)
                    obtain ⟨ad143, e143, hx143_0, hx143_1, hx143_2⟩ := at_T47 HR0.out x3_1 p143 q143
                    cases e143
                    replace hx143_0 := (HB.out.cell (World.block_lt_of_cell? w _ hx143_0)).trans hx143_0
                    replace hx143_1 := (HB.out.cell (World.block_lt_of_cell? w _ hx143_1)).trans hx143_1
                    replace hx143_2 := (HB.out.cell (World.block_lt_of_cell? w _ hx143_2)).trans hx143_2
                    replace p143 := eq_true p143
                    replace q143 := eq_true q143
                    go_wp2_with (first | ((with_reducible refine gate_dst (N := 4) rfl ?_); refine box_event ?hg (N := 4) ?hd (cs := #[.int .i64 0, .int .i64 0, .int .i64 0]) (t := 47) ?hr ?_; (case hd => rfl); (case hg => rfl); (case hr => first | (go_simp; done) | (go_simp; rfl)); intro gb144 hg w17 hbox hb; have n0_ := Aside0.mk (below_step (by repeat (first | (with_reducible first | exact HB.out | apply below_alloc | apply pw_below_drewN | apply below_drew1) | exact HB.out)) hb); have n1_ := Aside0.mk (hbox); have n2_ := Aside0.mk ((by rw [hg]; exact (below_size (by repeat (first | (with_reducible first | exact HB.out | apply below_alloc | apply pw_below_drewN | apply below_drew1) | exact HB.out))) : w.heap.size ≤ gb144)); have n3_ := Aside0.mk ((by rw [hg]; exact (below_size (by repeat (first | (with_reducible first | exact HB.out | apply below_alloc | apply pw_below_drewN | apply below_drew1) | exact HB.out))) : w.heap.size ≤ gb144)); clear HB; have HB := n0_; have BK144 := n1_; have GW144 := n2_; have GE144 := n3_; clear n0_ n1_ n2_ n3_; clear hb hbox hg; have hcz18_0 : w17.cell? ⟨gb144, 0, none⟩ = some (.int .i64 0) := (blk_cell BK144.out 0).trans rfl; have hcz18_1 : w17.cell? ⟨gb144, 1, none⟩ = some (.int .i64 0) := (blk_cell BK144.out 1).trans rfl; have hcz18_2 : w17.cell? ⟨gb144, 2, none⟩ = some (.int .i64 0) := (blk_cell BK144.out 2).trans rfl; have hfz18_0 := blk_frozen BK144.out 0; have hfz18_1 := blk_frozen BK144.out 1; have hfz18_2 := blk_frozen BK144.out 2))
                    go_ret
                    exact ⟨by first | rfl | (simp [errW_none, errW_some] <;> rfl) | (simp [*, errW_none, errW_some] <;> rfl), by repeat (first | (with_reducible first | exact HB.out | apply below_alloc | apply pw_below_drewN | apply below_drew1 | refine below_set ?_ GE144.out) | exact HB.out)⟩
                  · rw [if_neg c16] at H
                    have c16b0 : decide (1000000 < ((rd_T47 l0 x3_1).f2)) = false := decide_eq_false c16
                    clear c16
                    have H' := Aside0.mk H
                    clear H
                    have p143 : 0 ≤ (x3_1 : Int) := of_decide_eq_true (by first | (with_reducible assumption) | assumption)
                    have q143 : x3_1 < (l0.length : Int) := of_decide_eq_true (by first | (with_reducible assumption) | assumption)
                    obtain ⟨ad143, e143, hx143_0, hx143_1, hx143_2⟩ := at_T47 HR0.out x3_1 p143 q143
                    cases e143
                    replace hx143_0 := (HB.out.cell (World.block_lt_of_cell? w _ hx143_0)).trans hx143_0
                    replace hx143_1 := (HB.out.cell (World.block_lt_of_cell? w _ hx143_1)).trans hx143_1
                    replace hx143_2 := (HB.out.cell (World.block_lt_of_cell? w _ hx143_2)).trans hx143_2
                    replace p143 := eq_true p143
                    replace q143 := eq_true q143
                    go_wp2_with (first | ((with_reducible refine gate_dst (N := 4) rfl ?_); refine box_event ?hg (N := 4) ?hd (cs := #[.int .i64 0, .int .i64 0, .int .i64 0]) (t := 47) ?hr ?_; (case hd => rfl); (case hg => rfl); (case hr => first | (go_simp; done) | (go_simp; rfl)); intro gb144 hg w19 hbox hb; have n0_ := Aside0.mk (below_step (by repeat (first | (with_reducible first | exact HB.out | apply below_alloc | apply pw_below_drewN | apply below_drew1) | exact HB.out)) hb); have n1_ := Aside0.mk (hbox); have n2_ := Aside0.mk ((by rw [hg]; exact (below_size (by repeat (first | (with_reducible first | exact HB.out | apply below_alloc | apply pw_below_drewN | apply below_drew1) | exact HB.out))) : w.heap.size ≤ gb144)); have n3_ := Aside0.mk ((by rw [hg]; exact (below_size (by repeat (first | (with_reducible first | exact HB.out | apply below_alloc | apply pw_below_drewN | apply below_drew1) | exact HB.out))) : w.heap.size ≤ gb144)); clear HB; have HB := n0_; have BK144 := n1_; have GW144 := n2_; have GE144 := n3_; clear n0_ n1_ n2_ n3_; clear hb hbox hg; have hcz20_0 : w19.cell? ⟨gb144, 0, none⟩ = some (.int .i64 0) := (blk_cell BK144.out 0).trans rfl; have hcz20_1 : w19.cell? ⟨gb144, 1, none⟩ = some (.int .i64 0) := (blk_cell BK144.out 1).trans rfl; have hcz20_2 : w19.cell? ⟨gb144, 2, none⟩ = some (.int .i64 0) := (blk_cell BK144.out 2).trans rfl; have hfz20_0 := blk_frozen BK144.out 0; have hfz20_1 := blk_frozen BK144.out 1; have hfz20_2 := blk_frozen BK144.out 2))
                    go_roundg k1
                    case measure => have := HK1.out; omega
                    case rel => exact ⟨(wrap64 (x3_1 + 1)), (by first | rfl | (simp; done) | (simp [*]; done)), H', ⟨by have := HK1.out; omega⟩, ⟨by repeat (first | (with_reducible first | exact HB.out | apply below_alloc | apply pw_below_drewN | apply below_drew1 | refine below_set ?_ GE144.out) | exact HB.out)⟩⟩
        · rw [if_neg c3] at H
          exact absurd H (by simp)
      · rw [if_neg c2] at H
        have c2b0 : decide (x3_1 < (l0.length : Int)) = false := decide_eq_false c2
        clear c2
        obtain rfl := Option.some.inj H
        go_wp2
        go_ret
        exact ⟨by first | rfl | (simp [errW_none, errW_some] <;> rfl) | (simp [*, errW_none, errW_some] <;> rfl), by repeat (first | (with_reducible first | exact HB.out | apply below_alloc | apply pw_below_drewN | apply below_drew1) | exact HB.out)⟩
end Go.Proofs.Ytpjobcnfjpbaeaa.PA

set_option linter.unusedVariables false
set_option linter.unusedSimpArgs false
namespace Go.Proofs.Ytpjobcnfjpbaeaa.M
open Go.RowKit Go.Proofs.YtpjobcnfjpbaeaaW.PrintWords Go.Proofs.YtpjobcnfjpbaeaaW.PrintLast Go.Proofs.YtpjobcnfjpbaeaaW.PrintMore
open Go.Proofs.Ytpjobcnfjpbaeaa.PA Go.Proofs.Ytpjobcnfjpbaeaa.A
theorem wrap_succ {i n : Nat} (h : i < n) (hn : n ≤ 1000000) : wrap64 ((i : Int) + 1) = ((i + 1 : Nat) : Int) := by unfold wrap64; omega
theorem rdT47 (l : List S47) (i : Nat) : rd_T47 l (i : Int) = l.getD i z47 := by unfold rd_T47; rw [Int.toNat_natCast]
theorem rdI (l : List Int) (i : Nat) : rd l (i : Int) = l.getD i 0 := by unfold rd; rw [Int.toNat_natCast]
theorem drop_cons {α : Type} {l : List α} {i : Nat} {z : α} (h : i < l.length) : l.drop i = l.getD i z :: l.drop (i + 1) := by
  rw [List.drop_eq_getElem_cons h, List.getD_eq_getElem?_getD, List.getElem?_eq_getElem h]; rfl
def okR (x : S47) : Bool := decide (0 ≤ x.f0) && (decide (x.f1 ≤ 60) && (decide (x.f0 < x.f1) && (decide (0 ≤ x.f2) && decide (x.f2 ≤ 1000000))))
theorem bookings_ev (l : List S47) (hl : l.length ≤ 1000) : ∀ d i, i + d = l.length → Ev (fun k => turndownref08_Bookings.l0 k l (i : Int)) ((l.drop i).all okR && decide (l.length ≤ 40)) := by
  intro d
  induction d with
  | zero =>
    intro i hi
    obtain rfl : i = l.length := by omega
    refine Ev.step (f := fun _ => some (decide (l.length ≤ 40))) (fun k => ?_) (by simpa using Ev.now _)
    rw [turndownref08_Bookings.l0, if_neg (by omega)]
    congr 1
    rw [Bool.eq_iff_iff]; simp; omega
  | succ d ih =>
    intro i hi
    have hw := wrap_succ (show i < l.length by omega) (by omega)
    rw [drop_cons (z := z47) (by omega : i < l.length), List.all_cons]
    cases h : okR (l.getD i z47) with
    | false =>
      refine Ev.step (f := fun _ => some false) (fun k => ?_) (by simpa using Ev.now _)
      rw [turndownref08_Bookings.l0, if_pos (by omega), if_pos (by omega), rdT47]
      unfold okR at h
      simp only [Bool.and_eq_false_iff, decide_eq_false_iff_not] at h
      repeat' split
      all_goals first | rfl | omega
    | true =>
      refine Ev.step (fun k => ?_) (by rw [Bool.true_and]; exact ih (i + 1) (by omega))
      unfold okR at h
      simp only [Bool.and_eq_true, decide_eq_true_eq] at h
      rw [turndownref08_Bookings.l0, if_pos (by omega), if_pos (by omega), rdT47, if_neg (by omega), if_neg (by omega), if_neg (by omega), if_neg (by omega), if_neg (by omega), hw]
def bookB (l : List S47) : Bool := l.all okR && decide (l.length ≤ 40)
end Go.Proofs.Ytpjobcnfjpbaeaa.M

set_option linter.unusedVariables false
set_option linter.unusedSimpArgs false
namespace Go.Proofs
open Go.Shelf Go.RowKit Go.Lib Go.Sort
def Ytpjobcnfjpbaeaa.A.sort79_ren : Go.Shelf.Ren := ⟨fun | 20 => 79 | n => n, fun | 24 => 3 | 22 => 23 | 3 => 3 | 25 => 41 | 4 => 4 | 0 => 0 | n => n, fun | n => n⟩
theorem Ytpjobcnfjpbaeaa.A.sort79 : Go.Proofs.SlLaysF.n20 Try.prog Ytpjobcnfjpbaeaa.A.sort79_ren := {
  mixed := by kernel_rfl
  f20 := ⟨Try.f79.name, by decide, Try.func79.trans (congrArg some (by kernel_rfl))⟩
  t0 := Try.underlying0
  a0 := Try.isAgg0
  z0 := Try.sizeOf0
  v0 := Try.zeroValue0
  t3 := Try.underlying3
  a3 := Try.isAgg3
  z3 := Try.sizeOf3
  v3 := Try.zeroValue3
  t4 := Try.underlying4
  a4 := Try.isAgg4
  z4 := Try.sizeOf4
  v4 := Try.zeroValue4
  t22 := Try.underlying23
  a22 := Try.isAgg23
  z22 := Try.sizeOf23
  v22 := Try.zeroValue23
  a24 := Try.isAgg3
  z24 := Try.sizeOf3
  t25 := Try.underlying41
  a25 := Try.isAgg41
  z25 := Try.sizeOf41
  v25 := Try.zeroValue41 }
end Go.Proofs
namespace Go.Proofs.Ytpjobcnfjpbaeaa.A
open Go.RowKit Go.Proofs.YtpjobcnfjpbaeaaW.PrintWords Go.Proofs.YtpjobcnfjpbaeaaW.PrintLast Go.Proofs.YtpjobcnfjpbaeaaW.PrintMore
open Go.Proofs.Ytpjobcnfjpbaeaa.PA Go.Sort
def cmpI (x y : Int) : Int := if x < y then -1 else if y < x then 1 else 0
set_option maxHeartbeats 800000 in
theorem isNaN_c (x : Int) (w : World) : Calls Try.prog 70 #[.int .i64 x] w fun e w' => e = .returned (.bool false) ∧ w' = w := by
  have hx : (x != x) = false := by simp
  go_enter Try.func70, Try.ntmps70
  go_wp2_with fail
  go_ret
  exact ⟨rfl, rfl⟩
set_option maxHeartbeats 800000 in
theorem compare_c (x y : Int) (w : World) : Calls Try.prog 50 #[.int .i64 x, .int .i64 y] w fun e w' => e = .returned (.int .i64 (cmpI x y)) ∧ w' = w := by
  have HX := Lib.hid (isNaN_c x w)
  have HY := Lib.hid (isNaN_c y w)
  unfold cmpI
  by_cases h1 : x < y
  · rw [if_pos h1]
    go_enter Try.func50, Try.ntmps50
    go_wp2_with fail
    refine HX.out.mono ?_
    rintro e w1 ⟨rfl, rfl⟩
    go_wp2_with fail
    refine HY.out.mono ?_
    rintro e w1 ⟨rfl, rfl⟩
    go_wp2_with fail
    go_ret
    exact ⟨rfl, rfl⟩
  · by_cases h2 : y < x
    · rw [if_neg h1, if_pos h2]
      go_enter Try.func50, Try.ntmps50
      go_wp2_with fail
      refine HX.out.mono ?_
      rintro e w1 ⟨rfl, rfl⟩
      go_wp2_with fail
      refine HY.out.mono ?_
      rintro e w1 ⟨rfl, rfl⟩
      go_wp2_with fail
      go_ret
      exact ⟨rfl, rfl⟩
    · rw [if_neg h1, if_neg h2]
      go_enter Try.func50, Try.ntmps50
      go_wp2_with fail
      refine HX.out.mono ?_
      rintro e w1 ⟨rfl, rfl⟩
      go_wp2_with fail
      refine HY.out.mono ?_
      rintro e w1 ⟨rfl, rfl⟩
      go_wp2_with fail
      go_ret
      exact ⟨rfl, rfl⟩
structure Reads49 (l : List S47) (bx : Addr) (A : Addr) (c : Nat) (W : World) : Prop where
  box : W.cell? bx = some (.slice (some A) l.length c)
  from_ : ∀ (k : Nat) (x : S47), l[k]? = some x → W.cell? (A.add (k * 3)) = some (.int .i64 x.f0)
  to_ : ∀ (k : Nat) (x : S47), l[k]? = some x → W.cell? ⟨(A.add (k * 3)).block, (A.add (k * 3)).off + 1, none⟩ = some (.int .i64 x.f1)
set_option maxHeartbeats 1600000 in
set_option maxRecDepth 100000 in
theorem cmp49_c (l : List S47) (g : Nat) (A : Addr) (c : Nat) (i j : Nat) (x y : S47) (hl : l.length ≤ 1000) (hi : l[i]? = some x) (hj : l[j]? = some y) (W : World) (h : Reads49 l ⟨g, 0, none⟩ A c W) :
    Calls Try.prog 49 #[.int .i64 (i : Int), .int .i64 (j : Int), .pointer (some ⟨g, 0, none⟩)] W fun e w' => e = .returned (.int .i64 (cmpI x.f0 y.f0)) ∧ ∃ q, w' = W.drewN q := by
  have hi' : i < l.length := (List.getElem?_eq_some_iff.1 hi).1
  have hj' : j < l.length := (List.getElem?_eq_some_iff.1 hj).1
  have HC := Lib.hid (fun w => compare_c x.f0 y.f0 w)
  have z0 := h.box
  have z1 := h.from_ i x hi
  have z2 := h.from_ j y hj
  have CE : Hid (∀ w' : World, (∃ q, w' = W.drewN q) → w'.cell? ⟨g, 0, none⟩ = some (.slice (some A) l.length c) ∧ w'.cell? (A.add (i * 3)) = some (.int .i64 x.f0) ∧ w'.cell? (A.add (j * 3)) = some (.int .i64 y.f0)) := by
    rintro w' ⟨q, rfl⟩
    exact ⟨z0, z1, z2⟩
  clear h hi hj
  go_enter Try.func49, Try.ntmps49
  go_wp2_with fail
  apply R.wp_region_text [0, 1, 2, 3, 4, 5, 6, 7, 8, 9] [10, 11] 12 (fun w' => ∃ q, w' = W.drewN q)
  case hm => kernel_rfl
  case hB => kernel_rfl
  case hd => rfl
  case hQ => exact fun _ _ _ _ _ h => h
  case hS => exact ⟨1, rfl⟩
  case hF =>
    intro w' hS
    obtain ⟨z1, z2, z3⟩ := CE.out w' hS
    have HS := Lib.hid hS
    clear hS
    simp only [R.pickC, List.filterMap_cons, List.getElem?_toArray, List.getElem?_cons_zero, List.getElem?_cons_succ, List.filterMap_nil]
    iterate 10 ((with_reducible refine R.wpStill_plain rfl (fun K hK => ?_)); go_simp; with_reducible refine hK _ ?_; clear hK K)
    exact wpStill_nil rfl
  case hC =>
    simp only [R.chainOf, List.getElem?_toArray, List.getElem?_cons_zero, List.getElem?_cons_succ, Nat.reduceBNe, Bool.and_true, Bool.and_false, Bool.false_and]
    refine R.wpSeq_same (fun K hK => ?_)
    go_simp
    refine (HC.out _).mono ?_
    rintro e w4 ⟨rfl, rfl⟩
    refine hK _ _ ⟨1, rfl⟩ ?_
    clear hK K
    refine R.wpSeq_same (fun K hK => ?_)
    go_simp
    refine hK _ _ ⟨1, rfl⟩ ?_
    clear hK K
    refine R.wpSeq_nil ?_
    go_wp2_with fail
    go_ret
    exact ⟨rfl, 1, rfl⟩
set_option maxHeartbeats 1600000 in
theorem free52_c (l : List S47) (g g2 : Nat) (A : Addr) (c : Nat) (i : Nat) (t : Int) (x : S47) (hl : l.length ≤ 1000) (hi : l[i]? = some x) (W : World) (h : Reads49 l ⟨g, 0, none⟩ A c W) (h2 : W.cell? ⟨g2, 0, none⟩ = some (.int .i64 (i : Int))) :
    Calls Try.prog 52 #[.int .i64 t, .pointer (some ⟨g, 0, none⟩), .pointer (some ⟨g2, 0, none⟩)] W fun e w' => e = .returned (.bool (decide (t ≤ x.f0))) ∧ w' = W := by
  have hi' : i < l.length := (List.getElem?_eq_some_iff.1 hi).1
  have z0 := h.box
  have z1 := h.from_ i x hi
  clear h hi
  go_enter Try.func52, Try.ntmps52
  go_wp2_with fail
  go_ret
  exact ⟨rfl, rfl⟩
end Go.Proofs.Ytpjobcnfjpbaeaa.A

set_option linter.unusedVariables false
set_option linter.unusedSimpArgs false
namespace Go.Proofs.Ytpjobcnfjpbaeaa.T
def pl (x y : Int × Int) : Prop := x.1 < y.1 ∨ (x.1 = y.1 ∧ x.2 < y.2)
theorem pl_irr (x : Int × Int) : ¬ pl x x := by unfold pl; omega
theorem pl_asym {x y : Int × Int} (h : pl x y) : ¬ pl y x := by unfold pl at *; omega
theorem sorted_unique : ∀ {l m : List (Int × Int)}, l.Pairwise pl → m.Pairwise pl → (∀ x, x ∈ l ↔ x ∈ m) → l = m
  | [], [], _, _, _ => rfl
  | [], y :: m, _, _, h => absurd ((h y).2 (List.mem_cons_self ..)) (by simp)
  | x :: l, [], _, _, h => absurd ((h x).1 (List.mem_cons_self ..)) (by simp)
  | x :: l, y :: m, hl, hm, h => by
    obtain ⟨l1, l2⟩ := List.pairwise_cons.1 hl
    obtain ⟨m1, m2⟩ := List.pairwise_cons.1 hm
    have e : x = y := by
      rcases List.mem_cons.1 ((h x).1 (List.mem_cons_self ..)) with e | hx
      · exact e
      · rcases List.mem_cons.1 ((h y).2 (List.mem_cons_self ..)) with e | hy
        · exact e.symm
        · exact absurd (l1 y hy) (pl_asym (m1 x hx))
    subst e
    refine congrArg _ (sorted_unique l2 m2 (fun z => ⟨fun hz => ?_, fun hz => ?_⟩))
    · rcases List.mem_cons.1 ((h z).1 (List.mem_cons_of_mem _ hz)) with e | h9
      · subst e; exact absurd (l1 z hz) (pl_irr z)
      · exact h9
    · rcases List.mem_cons.1 ((h z).2 (List.mem_cons_of_mem _ hz)) with e | h9
      · subst e; exact absurd (m1 z hz) (pl_irr z)
      · exact h9
def outP (at_ : Nat → Int × Int) (leaves : Int × Int → Bool) : Nat → List (Int × Int)
  | 0 => []
  | k + 1 => if leaves (at_ k) = true ∧ at_ k ∉ outP at_ leaves k then outP at_ leaves k ++ [at_ k] else outP at_ leaves k
theorem outP_nodup (at_ : Nat → Int × Int) (leaves : Int × Int → Bool) : ∀ n, (outP at_ leaves n).Nodup
  | 0 => List.nodup_nil
  | k + 1 => by
    have ih := outP_nodup at_ leaves k
    unfold outP
    split
    · rename_i h
      exact List.nodup_append.2 ⟨ih, List.nodup_cons.2 ⟨by simp, List.nodup_nil⟩, fun x hx y hy => by
        rw [List.mem_singleton.1 hy]
        intro e
        subst e
        exact h.2 hx⟩
    · exact ih
theorem outP_mem {at_ : Nat → Int × Int} {leaves : Int × Int → Bool} : ∀ {n x}, x ∈ outP at_ leaves n ↔ leaves x = true ∧ ∃ k, k < n ∧ at_ k = x
  | 0, x => by simp [outP]
  | n + 1, x => by
    have ih := @outP_mem at_ leaves n
    unfold outP
    split
    · rename_i h
      rw [List.mem_append, List.mem_singleton, ih]
      constructor
      · rintro (⟨h1, k, hk, e⟩ | rfl)
        · exact ⟨h1, k, by omega, e⟩
        · exact ⟨h.1, n, by omega, rfl⟩
      · rintro ⟨h1, k, hk, e⟩
        by_cases hkn : k = n
        · subst hkn; exact .inr e.symm
        · exact .inl ⟨h1, k, by omega, e⟩
    · rename_i h
      rw [ih]
      constructor
      · rintro ⟨h1, k, hk, e⟩
        exact ⟨h1, k, by omega, e⟩
      · rintro ⟨h1, k, hk, e⟩
        by_cases hkn : k = n
        · subst hkn
          have hin : at_ k ∈ outP at_ leaves k := Classical.byContradiction (fun hn => h ⟨by rw [e]; exact h1, hn⟩)
          rw [e] at hin
          exact ih.1 hin
        · exact ⟨h1, k, by omega, e⟩
def insR (x : Int) : List Int → List Int
  | [] => [x]
  | y :: l => if y < x then y :: insR x l else if y = x then y :: l else x :: y :: l
theorem insR_mem {x z : Int} : ∀ {l : List Int}, z ∈ insR x l ↔ z = x ∨ z ∈ l
  | [] => by simp [insR]
  | y :: l => by
    have ih := @insR_mem x z l
    unfold insR
    split
    · rw [List.mem_cons, ih, List.mem_cons]
      constructor
      · rintro (h | h | h)
        · exact .inr (.inl h)
        · exact .inl h
        · exact .inr (.inr h)
      · rintro (h | h | h)
        · exact .inr (.inl h)
        · exact .inl h
        · exact .inr (.inr h)
    · split
      · rename_i h
        subst h
        rw [List.mem_cons]
        constructor
        · intro h; exact .inr h
        · rintro (h | h)
          · exact .inl h
          · exact h
      · rw [List.mem_cons]
theorem insR_srt {x : Int} : ∀ {l : List Int}, l.Pairwise (· < ·) → (insR x l).Pairwise (· < ·)
  | [], _ => List.pairwise_singleton _ _
  | y :: l, h => by
    obtain ⟨h1, h2⟩ := List.pairwise_cons.1 h
    unfold insR
    split
    · rename_i hy
      refine List.pairwise_cons.2 ⟨fun z hz => ?_, insR_srt h2⟩
      rcases insR_mem.1 hz with rfl | hz
      · exact hy
      · exact h1 z hz
    · split
      · exact h
      · rename_i hy hne
        refine List.pairwise_cons.2 ⟨fun z hz => ?_, h⟩
        rcases List.mem_cons.1 hz with rfl | hz
        · omega
        · have := h1 z hz; omega
def inR (c : Nat → Nat → Bool) (rm : Nat → Int) (i : Nat) : Nat → List Int → List Int
  | 0, l => l
  | k + 1, l => if c i k = true then insR (rm i) (inR c rm i k l) else inR c rm i k l
def foundR (c : Nat → Nat → Bool) (rm : Nat → Int) (n : Nat) : Nat → List Int
  | 0 => []
  | i + 1 => inR c rm i n (foundR c rm n i)
theorem inR_srt {c : Nat → Nat → Bool} {rm : Nat → Int} {i : Nat} {l : List Int} (h : l.Pairwise (· < ·)) : ∀ k, (inR c rm i k l).Pairwise (· < ·)
  | 0 => h
  | k + 1 => by
    unfold inR
    split
    · exact insR_srt (inR_srt h k)
    · exact inR_srt h k
theorem inR_mem {c : Nat → Nat → Bool} {rm : Nat → Int} {i : Nat} {l : List Int} {z : Int} : ∀ {n}, z ∈ inR c rm i n l ↔ z ∈ l ∨ ∃ k, k < n ∧ c i k = true ∧ z = rm i
  | 0 => by simp [inR]
  | n + 1 => by
    have ih := @inR_mem c rm i l z n
    unfold inR
    split
    · rename_i h
      rw [insR_mem, ih]
      constructor
      · rintro (h1 | h1 | ⟨k, hk, h2, h3⟩)
        · exact .inr ⟨n, by omega, h, h1⟩
        · exact .inl h1
        · exact .inr ⟨k, by omega, h2, h3⟩
      · rintro (h1 | ⟨k, hk, h2, h3⟩)
        · exact .inr (.inl h1)
        · exact .inl h3
    · rename_i h
      rw [ih]
      constructor
      · rintro (h1 | ⟨k, hk, h2, h3⟩)
        · exact .inl h1
        · exact .inr ⟨k, by omega, h2, h3⟩
      · rintro (h1 | ⟨k, hk, h2, h3⟩)
        · exact .inl h1
        · by_cases e : k = n
          · subst e; exact absurd h2 h
          · exact .inr ⟨k, by omega, h2, h3⟩
theorem foundR_srt {c : Nat → Nat → Bool} {rm : Nat → Int} {n : Nat} : ∀ i, (foundR c rm n i).Pairwise (· < ·)
  | 0 => List.Pairwise.nil
  | i + 1 => inR_srt (foundR_srt i) n
theorem foundR_mem {c : Nat → Nat → Bool} {rm : Nat → Int} {n : Nat} {z : Int} : ∀ {m}, z ∈ foundR c rm n m ↔ ∃ i k, i < m ∧ k < n ∧ c i k = true ∧ z = rm i
  | 0 => by simp [foundR]
  | m + 1 => by
    have ih := @foundR_mem c rm n z m
    unfold foundR
    rw [inR_mem, ih]
    constructor
    · rintro (⟨i, k, hi, hk, h1, h2⟩ | ⟨k, hk, h1, h2⟩)
      · exact ⟨i, k, by omega, hk, h1, h2⟩
      · exact ⟨m, k, by omega, hk, h1, h2⟩
    · rintro ⟨i, k, hi, hk, h1, h2⟩
      by_cases e : i = m
      · subst e; exact .inr ⟨k, hk, h1, h2⟩
      · exact .inl ⟨i, k, by omega, hk, h1, h2⟩
def refT (found : Nat → List Int) : Nat → List (Int × Int)
  | 0 => []
  | t + 1 => refT found t ++ (found t).map (fun r => ((t : Int), r))
theorem refT_mem {found : Nat → List Int} {x : Int × Int} : ∀ {N}, x ∈ refT found N ↔ ∃ t, t < N ∧ x.1 = (t : Int) ∧ x.2 ∈ found t
  | 0 => by simp [refT]
  | N + 1 => by
    have ih := @refT_mem found x N
    unfold refT
    rw [List.mem_append, ih, List.mem_map]
    constructor
    · rintro (⟨t, ht, h1, h2⟩ | ⟨r, hr, rfl⟩)
      · exact ⟨t, by omega, h1, h2⟩
      · exact ⟨N, by omega, rfl, hr⟩
    · rintro ⟨t, ht, h1, h2⟩
      by_cases e : t = N
      · subst e; exact .inr ⟨x.2, h2, by rw [← h1]⟩
      · exact .inl ⟨t, by omega, h1, h2⟩
theorem refT_srt {found : Nat → List Int} (h : ∀ t, (found t).Pairwise (· < ·)) : ∀ N, (refT found N).Pairwise pl
  | 0 => List.Pairwise.nil
  | N + 1 => by
    unfold refT
    refine List.pairwise_append.2 ⟨refT_srt h N, ?_, fun x hx y hy => ?_⟩
    · exact List.Pairwise.map _ (fun a b hab => .inr ⟨rfl, hab⟩) (h N)
    · obtain ⟨t, ht, h1, _⟩ := refT_mem.1 hx
      obtain ⟨r, _, rfl⟩ := List.mem_map.1 hy
      left
      show x.1 < (N : Int)
      omega
theorem turns_same {n N : Nat} {frm till rm : Nat → Int} {out : List (Int × Int)} (hto : ∀ i, i < n → 0 ≤ till i ∧ till i < (N : Int))
    (hs : out.Pairwise pl) (hm : ∀ x, x ∈ out ↔ x ∈ outP (fun k => (frm k, rm k)) (fun s => (List.range n).any (fun i => decide ((till i, rm i) = s))) n) :
    out = refT (fun t => foundR (fun i k => decide (till i = (t : Int)) && decide (frm k = (t : Int)) && decide (rm i = rm k)) rm n n) N := by
  refine sorted_unique hs (refT_srt (fun t => foundR_srt n) N) (fun x => ?_)
  rw [hm, outP_mem, refT_mem]
  simp only [List.any_eq_true, List.mem_range, decide_eq_true_eq, foundR_mem, Bool.and_eq_true]
  constructor
  · rintro ⟨⟨i, hi, e1⟩, k, hk, e2⟩
    have h1 := hto i hi
    have e3 : (frm k, rm k) = (till i, rm i) := e2.trans e1.symm
    have e4 : frm k = till i := congrArg Prod.fst e3
    have e5 : rm k = rm i := congrArg Prod.snd e3
    refine ⟨(till i).toNat, by omega, by rw [← e1]; show till i = _; omega, i, k, hi, hk, ⟨⟨by omega, by omega⟩, e5.symm⟩, by rw [← e1]⟩
  · rintro ⟨t, ht, h1, i, k, hi, hk, ⟨⟨h2, h3⟩, h4⟩, h5⟩
    refine ⟨⟨i, hi, ?_⟩, k, hk, ?_⟩
    · rw [h2, ← h1, ← h5]
    · show (frm k, rm k) = x
      rw [h3, ← h1, ← h4, ← h5]
end Go.Proofs.Ytpjobcnfjpbaeaa.T

set_option linter.unusedVariables false
set_option linter.unusedSimpArgs false
namespace Go.Proofs.Ytpjobcnfjpbaeaa.T
def MapIs (K : Int → Int → Lit) (ok : Int → Int → Prop) (D : DataW Unit) (m : Int → Int → Bool) : Prop :=
  Maps.IsMap D ∧ ∀ t r, ok t r → D.atKey (K t r) (.lit (.bool false)) = .lit (.bool (m t r))
theorem MapIs.start (K : Int → Int → Lit) (ok : Int → Int → Prop) : MapIs K ok (.map []) (fun _ _ => false) := ⟨Maps.isMap_empty, fun _ _ _ => rfl⟩
theorem MapIs.put {K : Int → Int → Lit} {ok : Int → Int → Prop} {D : DataW Unit} {m : Int → Int → Bool} (h : MapIs K ok D m) (hk : ∀ t r, WideAt.IsKeyLit (K t r)) (hi : ∀ t r t' r', ok t r → ok t' r' → K t r = K t' r' → t = t' ∧ r = r') {t r : Int} (ht : ok t r) :
    MapIs K ok (D.put (K t r) (.lit (.bool true))) (fun t' r' => (decide (t' = t) && decide (r' = r)) || m t' r') := by
  refine ⟨h.1.put _ _, fun t' r' h' => ?_⟩
  by_cases e : t' = t ∧ r' = r
  · obtain ⟨rfl, rfl⟩ := e
    rw [Maps.atKey_put_same h.1 (hk _ _)]
    simp
  · rw [Maps.atKey_put_other (fun e2 => e (hi _ _ _ _ h' ht e2)), h.2 t' r' h']
    have : (decide (t' = t) && decide (r' = r)) = false := by
      by_cases e1 : t' = t
      · rw [decide_eq_false (show ¬ r' = r from fun e2 => e ⟨e1, e2⟩), Bool.and_false]
      · rw [decide_eq_false e1, Bool.false_and]
    show _ = DataW.lit (.bool ((decide (t' = t) && decide (r' = r)) || m t' r'))
    rw [this, Bool.false_or]
theorem MapIs.del {K : Int → Int → Lit} {ok : Int → Int → Prop} {D : DataW Unit} {m : Int → Int → Bool} (h : MapIs K ok D m) (hi : ∀ t r t' r', ok t r → ok t' r' → K t r = K t' r' → t = t' ∧ r = r') {t r : Int} (ht : ok t r) :
    MapIs K ok (D.del (K t r)) (fun t' r' => !(decide (t' = t) && decide (r' = r)) && m t' r') := by
  refine ⟨h.1.del _, fun t' r' h' => ?_⟩
  by_cases e : t' = t ∧ r' = r
  · obtain ⟨rfl, rfl⟩ := e
    rw [Maps.atKey_del_same]
    simp
  · rw [Maps.atKey_del_other (fun e2 => e (hi _ _ _ _ h' ht e2)), h.2 t' r' h']
    have : (decide (t' = t) && decide (r' = r)) = false := by
      by_cases e1 : t' = t
      · rw [decide_eq_false (show ¬ r' = r from fun e2 => e ⟨e1, e2⟩), Bool.and_false]
      · rw [decide_eq_false e1, Bool.false_and]
    show _ = DataW.lit (.bool (!(decide (t' = t) && decide (r' = r)) && m t' r'))
    rw [this, Bool.not_false, Bool.true_and]
theorem MapIs.congr {K : Int → Int → Lit} {ok : Int → Int → Prop} {D : DataW Unit} {m m' : Int → Int → Bool} (h : MapIs K ok D m) (he : ∀ t r, m t r = m' t r) : MapIs K ok D m' := ⟨h.1, fun t r ht => by rw [h.2 t r ht, he]⟩
def stM (frm till rm : Nat → Int) (i : Nat) (u t r : Int) : Bool := (List.range i).any (fun j => decide (rm j = r) && decide (frm j ≤ t) && decide (t < till j)) || (decide (rm i = r) && decide (frm i ≤ t) && decide (t < u))
theorem stM_iff {frm till rm : Nat → Int} {i : Nat} {u t r : Int} : stM frm till rm i u t r = true ↔ (∃ j, j < i ∧ rm j = r ∧ frm j ≤ t ∧ t < till j) ∨ (rm i = r ∧ frm i ≤ t ∧ t < u) := by
  unfold stM
  simp only [Bool.or_eq_true, List.any_eq_true, List.mem_range, Bool.and_eq_true, decide_eq_true_eq]
  constructor
  · rintro (⟨j, hj, ⟨h1, h2⟩, h3⟩ | ⟨⟨h1, h2⟩, h3⟩)
    · exact .inl ⟨j, hj, h1, h2, h3⟩
    · exact .inr ⟨h1, h2, h3⟩
  · rintro (⟨j, hj, h1, h2, h3⟩ | ⟨h1, h2, h3⟩)
    · exact .inl ⟨j, hj, ⟨h1, h2⟩, h3⟩
    · exact .inr ⟨⟨h1, h2⟩, h3⟩
theorem bool_ext {a b : Bool} (h : a = true ↔ b = true) : a = b := by
  cases a <;> cases b <;> simp_all
theorem stM_put {frm till rm : Nat → Int} {i : Nat} {u : Int} (hu : frm i ≤ u) (t r : Int) : ((decide (t = u) && decide (r = rm i)) || stM frm till rm i u t r) = stM frm till rm i (u + 1) t r := by
  refine bool_ext ?_
  rw [Bool.or_eq_true, stM_iff, stM_iff]
  simp only [Bool.and_eq_true, decide_eq_true_eq]
  constructor
  · rintro (⟨h1, h2⟩ | h | ⟨h1, h2, h3⟩)
    · exact .inr ⟨h2.symm, by omega, by omega⟩
    · exact .inl h
    · exact .inr ⟨h1, h2, by omega⟩
  · rintro (h | ⟨h1, h2, h3⟩)
    · exact .inr (.inl h)
    · by_cases e : t = u
      · exact .inl ⟨e, h1.symm⟩
      · exact .inr (.inr ⟨h1, h2, by omega⟩)
theorem stM_next {frm till rm : Nat → Int} {i : Nat} (t r : Int) : stM frm till rm i (till i) t r = stM frm till rm (i + 1) (frm (i + 1)) t r := by
  refine bool_ext ?_
  rw [stM_iff, stM_iff]
  constructor
  · rintro (⟨j, hj, h1, h2, h3⟩ | ⟨h1, h2, h3⟩)
    · exact .inl ⟨j, by omega, h1, h2, h3⟩
    · exact .inl ⟨i, by omega, h1, h2, h3⟩
  · rintro (⟨j, hj, h1, h2, h3⟩ | ⟨h1, h2, h3⟩)
    · by_cases e : j = i
      · subst e; exact .inr ⟨h1, h2, h3⟩
      · exact .inl ⟨j, by omega, h1, h2, h3⟩
    · omega
theorem stM_start {frm till rm : Nat → Int} (t r : Int) : false = stM frm till rm 0 (frm 0) t r := by
  refine bool_ext ?_
  rw [stM_iff]
  constructor
  · intro h; cases h
  · rintro (⟨j, hj, _⟩ | ⟨h1, h2, h3⟩)
    · omega
    · omega
def Clash (frm till rm : Nat → Int) (i : Nat) : Prop := ∃ j, j < i ∧ rm j = rm i ∧ frm j < till i ∧ frm i < till j
theorem clash_of {frm till rm : Nat → Int} {i : Nat} {t : Int} (h1 : frm i ≤ t) (h2 : t < till i) (h : stM frm till rm i t t (rm i) = true) : Clash frm till rm i := by
  rcases stM_iff.1 h with ⟨j, hj, a, b, c⟩ | ⟨_, _, h3⟩
  · exact ⟨j, hj, a, by omega, by omega⟩
  · omega
theorem no_clash {frm till rm : Nat → Int} {i : Nat} (hv : ∀ j, j ≤ i → frm j < till j) (h : ∀ t, frm i ≤ t → t < till i → stM frm till rm i t t (rm i) = false) : ¬ Clash frm till rm i := by
  rintro ⟨j, hj, a, b, c⟩
  have hi := hv i (Nat.le_refl _)
  have hjv := hv j (by omega)
  obtain ⟨t, ht1, ht2, ht3, ht4⟩ : ∃ t, frm i ≤ t ∧ t < till i ∧ frm j ≤ t ∧ t < till j := by
    by_cases h9 : frm i ≤ frm j
    · exact ⟨frm j, h9, b, Int.le_refl _, hjv⟩
    · exact ⟨frm i, Int.le_refl _, hi, by omega, c⟩
  have h1 := h t ht1 ht2
  rw [stM_iff.2 (.inl ⟨j, hj, a, ht3, ht4⟩)] at h1
  cases h1
def lvM (till rm : Nat → Int) (i : Nat) (t r : Int) : Bool := (List.range i).any (fun j => decide ((till j, rm j) = (t, r)))
theorem lvM_put (till rm : Nat → Int) (i : Nat) (t r : Int) : ((decide (t = till i) && decide (r = rm i)) || lvM till rm i t r) = lvM till rm (i + 1) t r := by
  refine bool_ext ?_
  unfold lvM
  rw [Bool.or_eq_true, List.any_eq_true, List.any_eq_true]
  simp only [Bool.and_eq_true, decide_eq_true_eq, List.mem_range, Prod.mk.injEq]
  constructor
  · rintro (⟨h1, h2⟩ | ⟨j, hj, h⟩)
    · exact ⟨i, by omega, h1.symm, h2.symm⟩
    · exact ⟨j, by omega, h⟩
  · rintro ⟨j, hj, h⟩
    by_cases e : j = i
    · subst e; exact .inl ⟨h.1.symm, h.2.symm⟩
    · exact .inr ⟨j, by omega, h⟩
def leftM (at_ : Nat → Int × Int) (leaves : Int × Int → Bool) (k : Nat) (t r : Int) : Bool := leaves (t, r) && !decide ((t, r) ∈ outP at_ leaves k)
theorem left_start (at_ : Nat → Int × Int) (leaves : Int × Int → Bool) (t r : Int) : leaves (t, r) = leftM at_ leaves 0 t r := by simp [leftM, outP]
theorem left_hit {at_ : Nat → Int × Int} {leaves : Int × Int → Bool} {k : Nat} : leftM at_ leaves k (at_ k).1 (at_ k).2 = true ↔ (leaves (at_ k) = true ∧ at_ k ∉ outP at_ leaves k) := by
  simp [leftM]
theorem left_take {at_ : Nat → Int × Int} {leaves : Int × Int → Bool} {k : Nat} (h : leftM at_ leaves k (at_ k).1 (at_ k).2 = true) (t r : Int) : (!(decide (t = (at_ k).1) && decide (r = (at_ k).2)) && leftM at_ leaves k t r) = leftM at_ leaves (k + 1) t r ∧ outP at_ leaves (k + 1) = outP at_ leaves k ++ [at_ k] := by
  have h1 := left_hit.1 h
  have e : outP at_ leaves (k + 1) = outP at_ leaves k ++ [at_ k] := by rw [outP, if_pos h1]
  refine ⟨bool_ext ?_, e⟩
  unfold leftM
  rw [e]
  simp only [Bool.and_eq_true, Bool.not_eq_true', Bool.and_eq_false_iff, decide_eq_false_iff_not, List.mem_append, List.mem_singleton]
  constructor
  · rintro ⟨h2, h3, h4⟩
    refine ⟨h3, ?_⟩
    rintro (h5 | h5)
    · exact h4 h5
    · rcases h2 with h2 | h2
      · exact h2 (congrArg Prod.fst h5)
      · exact h2 (congrArg Prod.snd h5)
  · rintro ⟨h3, h4⟩
    refine ⟨?_, h3, fun h5 => h4 (.inl h5)⟩
    by_cases e1 : t = (at_ k).1
    · right
      intro e2
      exact h4 (.inr (by rw [e1, e2]))
    · exact .inl e1
theorem left_skip {at_ : Nat → Int × Int} {leaves : Int × Int → Bool} {k : Nat} (h : leftM at_ leaves k (at_ k).1 (at_ k).2 = false) : (∀ t r, leftM at_ leaves k t r = leftM at_ leaves (k + 1) t r) ∧ outP at_ leaves (k + 1) = outP at_ leaves k := by
  have h1 : ¬ (leaves (at_ k) = true ∧ at_ k ∉ outP at_ leaves k) := fun h2 => by
    rw [left_hit.2 h2] at h; cases h
  have e : outP at_ leaves (k + 1) = outP at_ leaves k := by rw [outP, if_neg h1]
  exact ⟨fun t r => by unfold leftM; rw [e], e⟩
end Go.Proofs.Ytpjobcnfjpbaeaa.T

set_option linter.unusedVariables false
set_option linter.unusedSimpArgs false
namespace Go.Proofs.Ytpjobcnfjpbaeaa.T
def keyS (t r : Int) : Lit := .string (keyBytes [.int .i64 t, .int .i64 r])
def okK (t r : Int) : Prop := (Lit.int .i64 t).wf = true ∧ (Lit.int .i64 r).wf = true
theorem keyS_key (t r : Int) : WideAt.IsKeyLit (keyS t r) := by
  simp [keyS, WideAt.IsKeyLit]
theorem keyS_inj (t r t' r' : Int) (h : okK t r) (h' : okK t' r') (e : keyS t r = keyS t' r') : t = t' ∧ r = r' := by
  unfold keyS at e
  injection e with e
  have hk : ∀ {t r : Int}, okK t r → ∀ a ∈ [Lit.int .i64 t, Lit.int .i64 r], a.keyWf := fun {t r} h a ha => by
    simp only [List.mem_cons, List.not_mem_nil, or_false] at ha
    rcases ha with rfl | rfl
    · exact h.1
    · exact h.2
  have := keyBytes_inj (l := [.int .i64 t, .int .i64 r]) (l' := [.int .i64 t', .int .i64 r']) ⟨rfl, rfl, trivial⟩ (hk h) (hk h') e
  simp only [List.cons.injEq, Lit.int.injEq, true_and, and_true] at this
  exact this
end Go.Proofs.Ytpjobcnfjpbaeaa.T

set_option linter.unusedVariables false
set_option linter.unusedSimpArgs false
namespace Go.Proofs.Ytpjobcnfjpbaeaa.T
open Go.RowKit
theorem lay84 : Try.prog.underlying 84 = some (.map 86 4) := Try.underlying84
theorem laid : laidOutB Try.prog = true := by kernel_rfl
theorem row86 : (86 : TypeId) < Try.prog.types.size := of_decide_eq_true (by kernel_rfl)
theorem wide86 : (match Try.prog.underlying 86 with | some (.array _ _) | some (.struct _) => true | _ => false) = true := by rw [Try.underlying86]
set_option maxRecDepth 100000 in
theorem keyed86 : Maps.Keyed Try.prog 86 := Maps.Keyed.of_law (deep_law_laid laid (m := 2) (by omega) row86 (by kernel_rfl) wide86)
theorem zero4 (w : World) : (zeroValue 4).run Try.prog w = .ok (.bool false) w := by kernel_rfl
theorem kt86 : Try.prog.keyType 86 = true := by kernel_rfl
theorem cells86 : Try.prog.cellsOf 86 = 2 := by kernel_rfl
theorem formed86 (t r : Int) : (Value.agg #[.int .i64 t, .int .i64 r]).formed Try.prog 86 = true := by simp [Value.formed, Try.underlying86, cells86]
theorem cells3 : Try.prog.cellsOf 3 = 1 := by kernel_rfl
theorem key86 {t r : Int} (h : okK t r) : keyOf Try.prog 86 (.agg #[.int .i64 t, .int .i64 r]) = some (keyS t r) := by
  have hl : Try.prog.keyLits (Try.prog.types.size + 1) 86 [.int .i64 t, .int .i64 r] = some [.int .i64 t, .int .i64 r] := by
    obtain ⟨n, hn⟩ : ∃ n, Try.prog.types.size = n := ⟨_, rfl⟩
    have hlt := row86
    rw [hn] at hlt ⊢
    obtain ⟨d, hd⟩ : ∃ d, n = d + 1 := by
      cases n with
      | zero => exact absurd hlt (Nat.not_lt_zero _)
      | succ d => exact ⟨d, rfl⟩
    rw [hd]
    unfold Program.keyLits
    rw [Try.underlying86]
    simp [cells86, Program.keyLits, Try.underlying3, h.1, h.2, cells3]
  unfold keyOf
  rw [Try.underlying86]
  simp only [kt86, formed86, Bool.and_self, if_true]
  rw [show (Value.agg #[Value.int IntKind.i64 t, Value.int IntKind.i64 r]).cells.toList = [.int .i64 t, .int .i64 r] by simp [Value.cells], hl]
  rfl
end Go.Proofs.Ytpjobcnfjpbaeaa.T

set_option linter.unusedVariables false
set_option linter.unusedSimpArgs false
namespace Go.Proofs.Ytpjobcnfjpbaeaa.T
open Go.Sort
def cmpI (x y : Int) : Int := if x < y then -1 else if y < x then 1 else 0
def cfP (x y : Int × Int) : Int := if cmpI x.1 y.1 ≠ 0 then cmpI x.1 y.1 else cmpI x.2 y.2
theorem cfP_lt (x y : Int × Int) : cfP x y < 0 ↔ pl x y := by
  unfold cfP cmpI pl
  split <;> split <;> (try split) <;> (try split) <;> (try split) <;> omega
def ltP (x y : Int × Int) : Bool := decide (cfP x y < 0)
theorem ltP_iff {x y : Int × Int} : ltP x y = true ↔ pl x y := by unfold ltP; rw [decide_eq_true_eq]; exact cfP_lt x y
theorem ltP_false {x y : Int × Int} : ltP x y = false ↔ ¬ pl x y := by
  rw [← ltP_iff]; cases ltP x y <;> simp
theorem ltP_swo : SWO ltP := by
  refine ⟨fun x => ltP_false.2 (pl_irr x), fun x y z h1 h2 => ?_, fun x y z h1 h2 => ?_⟩
  · rw [ltP_iff] at *
    unfold pl at *; omega
  · rw [ltP_false] at *
    unfold pl at *; omega
theorem pl_total {x y : Int × Int} (h : x ≠ y) (h2 : ¬ pl y x) : pl x y := by
  unfold pl at *
  by_cases e : x.1 = y.1 ∧ x.2 = y.2
  · exact absurd (Prod.ext e.1 e.2) h
  · omega
theorem sorted_strict {d d' : Array (Int × Int)} (hn : d.toList.Nodup) (hp : PermIn 0 d.size d d') (hs : SortedIn ltP 0 d.size d') : d'.toList.Pairwise pl ∧ (∀ x, x ∈ d'.toList ↔ x ∈ d.toList) ∧ d'.size = d.size := by
  obtain ⟨h1, _, h3⟩ := hp
  have e1 : d.extract 0 d.size = d := by simp
  have e2 : d'.extract 0 d.size = d' := by rw [← h1]; simp
  rw [e1, e2] at h3
  refine ⟨?_, fun x => h3.mem_iff, h1⟩
  have hn' : d'.toList.Nodup := h3.nodup_iff.2 hn
  rw [List.pairwise_iff_getElem]
  intro i j hi hj hij
  rw [Array.length_toList] at hi hj
  have h := hs i j (Nat.zero_le _) hij (by omega)
  rw [getElem!_pos d' i hi, getElem!_pos d' j hj, ltP_false] at h
  refine pl_total (fun e => ?_) h
  have := List.pairwise_iff_getElem.1 hn' i j (by simpa using hi) (by simpa using hj) hij
  exact this e
end Go.Proofs.Ytpjobcnfjpbaeaa.T

set_option linter.unusedVariables false
set_option linter.unusedSimpArgs false
namespace Go.Proofs.Ytpjobcnfjpbaeaa.T
open Go.RowKit Go.Proofs.YtpjobcnfjpbaeaaW.PrintWords Go.Proofs.YtpjobcnfjpbaeaaW.PrintLast Go.Proofs.YtpjobcnfjpbaeaaW.PrintMore
open Go.Proofs.Ytpjobcnfjpbaeaa.PA Go.Proofs.Ytpjobcnfjpbaeaa.A
open Go.Maps (string_keyed)
set_option maxRecDepth 100000 in
theorem look_bool {w : World} {b n : Nat} {D : DataW Unit} (h : w.ownsMap Try.prog 86 (plainElem Try.prog 4) b n D) {t r : Int} (hk : okK t r) :
    ∃ c : Bool, (Instr.lookup 84 (.map (some b)) (.agg #[.int .i64 t, .int .i64 r]) false).run Try.prog w = .ok (.bool c) w ∧ D.atKey (keyS t r) (.lit (.bool false)) = .lit (.bool c) := by
  obtain ⟨v, ps, hrun, hv⟩ := h.lookup keyed86 lay84 (zero4 w) (zd := .lit (.bool false)) (zp := []) (plainElem_bool Try.underlying4 false) (key86 hk)
  unfold plainElem at hv
  rw [Try.underlying4] at hv
  cases v <;> simp at hv
  rename_i c
  exact ⟨c, hrun, hv.1.symm⟩
def neg1 (x : Int) : Bool := decide (x < 0)
set_option maxHeartbeats 400000 in
theorem pred57 (w : World) : PredOf 57 #[] it neg1 w := by
  intro W x hW
  go_enter Try.func57, Try.ntmps57
  go_wp2
  go_ret
  exact ⟨rfl, Below.refl _ _⟩
end Go.Proofs.Ytpjobcnfjpbaeaa.T

set_option linter.unusedVariables false
set_option linter.unusedSimpArgs false
namespace Go.Proofs.Ytpjobcnfjpbaeaa.T
open Go.RowKit Go.Proofs.YtpjobcnfjpbaeaaW.PrintWords Go.Proofs.YtpjobcnfjpbaeaaW.PrintLast Go.Proofs.YtpjobcnfjpbaeaaW.PrintMore
open Go.Proofs.Ytpjobcnfjpbaeaa.PA Go.Proofs.Ytpjobcnfjpbaeaa.A
def turnB (l : List S47) (rs : List Int) : Bool := areB l && (decide (rs.length = l.length) && !rs.any neg1)
theorem enters57 : Go.Proofs.Ytpjobcnfjpbaeaa.A.Enters 57 := enters_mk Try.func57 (by kernel_rfl) rfl
set_option maxHeartbeats 1600000 in
theorem Turn_no (A0 : Option Addr) (c0 : Nat) (l : List S47) (A1 : Option Addr) (c1 : Nat) (rs : List Int) (w : World) (hr0 : Kd.C k47 w A0 l.length l) (hr1 : Kd.C (Kd.int .i64) w A1 rs.length rs) (hb : turnB l rs = false) :
    Calls Try.prog 39 #[.slice A0 l.length c0, .slice A1 rs.length c1] w fun e w' => e = .returned (.tuple #[.slice none 0 0, .int .i64 2]) ∧ Below w.heap.size w w' := by
  have H47 := Lib.hid (areB_c A0 c0 l w hr0)
  have H56 := fun W (hW : Below w.heap.size w W) => Lib.hid (hasInt_c 57 #[] neg1 A1 c1 rs W enters57 (pred57 W) (Kd.C_below hr1 hW))
  unfold turnB at hb
  obtain ⟨b1, e1⟩ : ∃ b, areB l = b := ⟨_, rfl⟩
  obtain ⟨b3, e3⟩ : ∃ b, rs.any neg1 = b := ⟨_, rfl⟩
  rw [e1] at H47 hb
  rw [e3] at hb
  have E3 := Lib.hid e3
  clear e1 e3 hr0 hr1
  cases b1
  · clear hb
    go_enter Try.func39, Try.ntmps39
    go_wp2_with (first | (go_at_call 47; (with_reducible refine H47.out.mono ?_); rintro e w' ⟨rfl, hb1⟩))
    go_ret2
    exact ⟨rfl, hb1⟩
  · by_cases hl : rs.length = l.length
    · cases b3
      · simp [hl] at hb
      · clear hb
        rw [hl] at H56 ⊢
        go_enter Try.func39, Try.ntmps39
        go_wp2_with (first | (go_at_call 47; (with_reducible refine H47.out.mono ?_); rintro e w' ⟨rfl, hb1⟩) | (go_at_call 56; (with_reducible refine (H56 _ hb1).out.mono ?_); rintro e w2 ⟨rfl, hb2⟩; rw [E3.out]; have hb3 := hb1.trans (hb2.mono hb1.size)))
        go_ret2
        exact ⟨rfl, hb3⟩
    · clear hb
      have hl' : ¬ ((rs.length : Int) = (l.length : Int)) := by omega
      go_enter Try.func39, Try.ntmps39
      go_wp2_with (first | (go_at_call 47; (with_reducible refine H47.out.mono ?_); rintro e w' ⟨rfl, hb1⟩))
      go_ret2
      exact ⟨rfl, hb1⟩
end Go.Proofs.Ytpjobcnfjpbaeaa.T

set_option linter.unusedVariables false
set_option linter.unusedSimpArgs false
namespace Go.Proofs.Ytpjobcnfjpbaeaa.T
open Go.Sort (grow alloc_eq_grow grow_grow)
open Go.RowKit Go.Proofs.YtpjobcnfjpbaeaaW.PrintWords Go.Proofs.YtpjobcnfjpbaeaaW.PrintLast Go.Proofs.YtpjobcnfjpbaeaaW.PrintMore
open Go.Proofs.Ytpjobcnfjpbaeaa.PA Go.Proofs.Ytpjobcnfjpbaeaa.A
def orI (a b : Int) : Int := if a ≠ 0 then a else b
set_option maxHeartbeats 1600000 in
theorem or_c (g : Nat) (a b : Int) (w : World) (h0 : w.cell? ⟨g, 0, none⟩ = some (.int .i64 a)) (h1 : w.cell? ⟨g, 1, none⟩ = some (.int .i64 b)) :
    Calls Try.prog 60 #[.slice (some ⟨g, 0, none⟩) 2 2] w fun e w' => e = .returned (.int .i64 (orI a b)) ∧ w' = w := by
  by_cases ha : a = 0
  · have e : orI a b = b := by unfold orI; rw [if_neg (by simpa using ha)]
    rw [e]
    clear e
    by_cases hb : b = 0
    · subst ha
      subst hb
      go_enter Try.func60, Try.ntmps60
      go_wp2_with fail
      refine wp_loop_rounds 3 ?_
      rw [rounds_succ]
      go_wp2_with fail
      rw [rounds_succ]
      go_wp2_with fail
      rw [rounds_succ]
      go_wp2_with fail
      go_ret
      exact ⟨rfl, rfl⟩
    · subst ha
      go_enter Try.func60, Try.ntmps60
      go_wp2_with fail
      refine wp_loop_rounds 3 ?_
      rw [rounds_succ]
      go_wp2_with fail
      rw [rounds_succ]
      go_wp2_with fail
      go_ret
      exact ⟨rfl, rfl⟩
  · have e : orI a b = a := by unfold orI; rw [if_pos (by simpa using ha)]
    rw [e]
    clear e
    go_enter Try.func60, Try.ntmps60
    go_wp2_with fail
    refine wp_loop_rounds 3 ?_
    rw [rounds_succ]
    go_wp2_with fail
    go_ret
    exact ⟨rfl, rfl⟩
set_option maxHeartbeats 4000000 in
set_option maxRecDepth 100000 in
theorem cmp59_c (x1 x2 y1 y2 : Int) (w : World) :
    Calls Try.prog 59 #[.agg #[.int .i64 x1, .int .i64 x2], .agg #[.int .i64 y1, .int .i64 y2]] w fun e w' => e = .returned (.int .i64 (orI (A.cmpI x1 y1) (A.cmpI x2 y2))) ∧ ∃ q os', w' = grow (w.drewN q) os' := by
  obtain ⟨r1, h1⟩ : ∃ r, A.cmpI x1 y1 = r := ⟨_, rfl⟩
  obtain ⟨r2, h2⟩ : ∃ r, A.cmpI x2 y2 = r := ⟨_, rfl⟩
  have H1 : Hid (∀ W, Calls Try.prog 50 #[.int .i64 x1, .int .i64 y1] W fun e w' => e = .returned (.int .i64 r1) ∧ w' = W) := Lib.hid (fun W => by rw [← h1]; exact compare_c x1 y1 W)
  have H2 : Hid (∀ W, Calls Try.prog 50 #[.int .i64 x2, .int .i64 y2] W fun e w' => e = .returned (.int .i64 r2) ∧ w' = W) := Lib.hid (fun W => by rw [← h2]; exact compare_c x2 y2 W)
  rw [h1, h2]
  clear h1 h2
  go_enter Try.func59, Try.ntmps59
  go_upto_region 1 with fail
  obtain ⟨B, hB⟩ : ∃ B, w.heap.size = B := ⟨_, rfl⟩
  have hz : ((w.alloc (Obj.cells #[Value.int IntKind.i64 x1, Value.int IntKind.i64 x2] 86)).alloc (Obj.cells #[Value.int IntKind.i64 y1, Value.int IntKind.i64 y2] 86)).heap.size = B + 2 := by simp [hB]
  have z0 : ((w.alloc (Obj.cells #[Value.int IntKind.i64 x1, Value.int IntKind.i64 x2] 86)).alloc (Obj.cells #[Value.int IntKind.i64 y1, Value.int IntKind.i64 y2] 86)).cell? ⟨B, 0, none⟩ = some (.int .i64 x1) := by rw [← hB]; simp [go_sem]
  have z1 : ((w.alloc (Obj.cells #[Value.int IntKind.i64 x1, Value.int IntKind.i64 x2] 86)).alloc (Obj.cells #[Value.int IntKind.i64 y1, Value.int IntKind.i64 y2] 86)).cell? ⟨B, 1, none⟩ = some (.int .i64 x2) := by rw [← hB]; simp [go_sem]
  have z2 : ((w.alloc (Obj.cells #[Value.int IntKind.i64 x1, Value.int IntKind.i64 x2] 86)).alloc (Obj.cells #[Value.int IntKind.i64 y1, Value.int IntKind.i64 y2] 86)).cell? ⟨B + 1, 0, none⟩ = some (.int .i64 y1) := by rw [← hB]; simp [go_sem]
  have z3 : ((w.alloc (Obj.cells #[Value.int IntKind.i64 x1, Value.int IntKind.i64 x2] 86)).alloc (Obj.cells #[Value.int IntKind.i64 y1, Value.int IntKind.i64 y2] 86)).cell? ⟨B + 1, 1, none⟩ = some (.int .i64 y2) := by rw [← hB]; simp [go_sem]
  rw [hB]
  obtain ⟨W, hW⟩ : ∃ W, ((w.alloc (Obj.cells #[Value.int IntKind.i64 x1, Value.int IntKind.i64 x2] 86)).alloc (Obj.cells #[Value.int IntKind.i64 y1, Value.int IntKind.i64 y2] 86)) = W := ⟨_, rfl⟩
  rw [hW] at z0 z1 z2 z3 hz ⊢
  have CE : Hid (∀ w', R.Keeps [] W w' → w'.cell? ⟨B, 0, none⟩ = some (.int .i64 x1) ∧ w'.cell? ⟨B, 1, none⟩ = some (.int .i64 x2) ∧ w'.cell? ⟨B + 1, 0, none⟩ = some (.int .i64 y1) ∧ w'.cell? ⟨B + 1, 1, none⟩ = some (.int .i64 y2)) := Lib.hid (fun w' h => ⟨h.cell z0 (by simp), h.cell z1 (by simp), h.cell z2 (by simp), h.cell z3 (by simp)⟩)
  have HW := Lib.hid hW
  clear z0 z1 z2 z3 hW hB
  apply R.wp_region_text [0, 1, 2, 3, 5, 6, 7, 8] [4, 9, 10, 11, 12] 13 (R.Keeps [] W)
  case hm => kernel_rfl
  case hB => kernel_rfl
  case hd => rfl
  case hQ => exact fun _ _ _ _ _ h => h
  case hS => exact (R.Keeps.refl _ _).drew
  case hF =>
    intro w' hS
    obtain ⟨y0, y1, y2, y3⟩ := CE.out w' hS
    clear hS
    simp only [R.pickC, List.filterMap_cons, List.getElem?_toArray, List.getElem?_cons_zero, List.getElem?_cons_succ, List.filterMap_nil]
    (with_reducible refine R.wpStill_plain rfl (fun K hK => ?_)); go_simp; with_reducible refine hK _ ?_; clear hK K
    (with_reducible refine R.wpStill_plain rfl (fun K hK => ?_)); go_simp; with_reducible refine hK _ ?_; clear hK K
    (with_reducible refine R.wpStill_plain rfl (fun K hK => ?_)); go_simp; with_reducible refine hK _ ?_; clear hK K
    (with_reducible refine R.wpStill_plain rfl (fun K hK => ?_)); go_simp; with_reducible refine hK _ ?_; clear hK K
    (with_reducible refine R.wpStill_plain rfl (fun K hK => ?_)); go_simp; with_reducible refine hK _ ?_; clear hK K
    (with_reducible refine R.wpStill_plain rfl (fun K hK => ?_)); go_simp; with_reducible refine hK _ ?_; clear hK K
    (with_reducible refine R.wpStill_plain rfl (fun K hK => ?_)); go_simp; with_reducible refine hK _ ?_; clear hK K
    (with_reducible refine R.wpStill_plain rfl (fun K hK => ?_)); go_simp; with_reducible refine hK _ ?_; clear hK K
    exact wpStill_nil rfl
  case hC =>
    simp only [R.chainOf, List.getElem?_toArray, List.getElem?_cons_zero, List.getElem?_cons_succ, Nat.reduceBNe, Bool.and_true, Bool.and_false, Bool.false_and]
    refine R.wpSeq_same (fun K hK => ?_)
    go_simp
    refine (H1.out _).mono ?_
    rintro e w2 ⟨rfl, rfl⟩
    refine hK _ _ (R.Keeps.refl _ _).drew ?_
    clear hK K
    refine R.wpSeq_same (fun K hK => ?_)
    go_simp
    refine (H2.out _).mono ?_
    rintro e w2 ⟨rfl, rfl⟩
    refine hK _ _ (R.Keeps.refl _ _).drew ?_
    clear hK K
    refine R.wpSeq_same (fun K hK => ?_)
    go_simp
    with_reducible refine hK _ _ ((R.Keeps.refl _ _).alloc _).drew ?_
    clear hK K
    refine R.wpSeq_same (fun K hK => ?_)
    go_simp
    refine (or_c (B + 2) r1 r2 _ (by rw [← hz]; simp [go_sem]) (by rw [← hz]; simp [go_sem])).mono ?_
    rintro e w2 ⟨rfl, rfl⟩
    refine hK _ _ ((R.Keeps.refl _ _).alloc _).drew ?_
    clear hK K
    refine R.wpSeq_same (fun K hK => ?_)
    go_simp
    with_reducible refine hK _ _ ((R.Keeps.refl _ _).alloc _).drew ?_
    clear hK K
    refine R.wpSeq_nil ?_
    go_wp2_with fail
    go_ret
    refine ⟨rfl, 1, #[Obj.cells #[Value.int IntKind.i64 x1, Value.int IntKind.i64 x2] 86] ++ #[Obj.cells #[Value.int IntKind.i64 y1, Value.int IntKind.i64 y2] 86] ++ #[Obj.cells #[Value.int IntKind.i64 r1, Value.int IntKind.i64 r2] 3], ?_⟩
    rw [← HW.out, alloc_eq_grow, alloc_eq_grow, alloc_eq_grow, grow_grow, grow_grow]
    rfl
end Go.Proofs.Ytpjobcnfjpbaeaa.T

set_option linter.unusedVariables false
set_option linter.unusedSimpArgs false
namespace Go.Proofs
open Go.Shelf
def Ytpjobcnfjpbaeaa.T.sort58_ren : Go.Shelf.Ren := ⟨fun | 6 => 58 | 15 => 74 | 14 => 73 | 28 => 89 | 29 => 90 | 20 => 81 | 21 => 82 | 22 => 83 | 23 => 84 | 24 => 85 | 25 => 86 | 26 => 87 | 27 => 88 | 46 => 94 | 47 => 95 | 48 => 96 | 49 => 97 | 50 => 98 | 57 => 100 | n => n, fun | 22 => 87 | 24 => 86 | 25 => 90 | 3 => 3 | 39 => 77 | 0 => 0 | 53 => 121 | 55 => 123 | 4 => 4 | 46 => 114 | 45 => 113 | 50 => 118 | 5 => 5 | 9 => 9 | 66 => 126 | 70 => 130 | 76 => 132 | 77 => 60 | n => n, fun | n => n⟩
theorem Ytpjobcnfjpbaeaa.T.sort58 : Go.Proofs.SlLaysF0.n6 Try.prog Ytpjobcnfjpbaeaa.T.sort58_ren := {
  mixed := by kernel_rfl
  f6 := ⟨Try.f58.name, by decide, Try.func58.trans (congrArg some (by kernel_rfl))⟩
  f14 := ⟨Try.f73.name, by decide, Try.func73.trans (congrArg some (by kernel_rfl))⟩
  f15 := Try.func74.trans (congrArg some (by kernel_rfl))
  f20 := ⟨Try.f81.name, by decide, Try.func81.trans (congrArg some (by kernel_rfl))⟩
  f21 := ⟨Try.f82.name, by decide, Try.func82.trans (congrArg some (by kernel_rfl))⟩
  f22 := ⟨Try.f83.name, by decide, Try.func83.trans (congrArg some (by kernel_rfl))⟩
  f23 := ⟨Try.f84.name, by decide, Try.func84.trans (congrArg some (by kernel_rfl))⟩
  f24 := ⟨Try.f85.name, by decide, Try.func85.trans (congrArg some (by kernel_rfl))⟩
  f25 := ⟨Try.f86.name, by decide, Try.func86.trans (congrArg some (by kernel_rfl))⟩
  f26 := ⟨Try.f87.name, by decide, Try.func87.trans (congrArg some (by kernel_rfl))⟩
  f27 := ⟨Try.f88.name, by decide, Try.func88.trans (congrArg some (by kernel_rfl))⟩
  f28 := Try.func89.trans (congrArg some (by kernel_rfl))
  f29 := Try.func90.trans (congrArg some (by kernel_rfl))
  f46 := ⟨Try.f94.name, by decide, Try.func94.trans (congrArg some (by kernel_rfl))⟩
  f47 := Try.func95.trans (congrArg some (by kernel_rfl))
  f48 := Try.func96.trans (congrArg some (by kernel_rfl))
  f49 := ⟨Try.f97.name, by decide, Try.func97.trans (congrArg some (by kernel_rfl))⟩
  f50 := ⟨Try.f98.name, by decide, Try.func98.trans (congrArg some (by kernel_rfl))⟩
  f57 := ⟨Try.f100.name, by decide, Try.func100.trans (congrArg some (by kernel_rfl))⟩
  t0 := Try.underlying0
  a0 := Try.isAgg0
  z0 := Try.sizeOf0
  v0 := Try.zeroValue0
  t3 := Try.underlying3
  a3 := Try.isAgg3
  z3 := Try.sizeOf3
  v3 := Try.zeroValue3
  t4 := Try.underlying4
  a4 := Try.isAgg4
  z4 := Try.sizeOf4
  v4 := Try.zeroValue4
  t5 := Try.underlying5
  a5 := Try.isAgg5
  z5 := Try.sizeOf5
  v5 := Try.zeroValue5
  t9 := Try.underlying9
  a9 := Try.isAgg9
  z9 := Try.sizeOf9
  v9 := Try.zeroValue9
  t22 := Try.underlying87
  a22 := Try.isAgg87
  z22 := Try.sizeOf87
  v22 := Try.zeroValue87
  t25 := Try.underlying90
  a25 := Try.isAgg90
  z25 := Try.sizeOf90
  v25 := Try.zeroValue90
  t39 := Try.underlying77
  a39 := Try.isAgg77
  z39 := Try.sizeOf77
  v39 := Try.zeroValue77
  t45 := Try.underlying113
  a45 := Try.isAgg113
  z45 := Try.sizeOf113
  v45 := Try.zeroValue113
  t46 := Try.underlying114
  a46 := Try.isAgg114
  z46 := Try.sizeOf114
  v46 := Try.zeroValue114
  t50 := Try.underlying118
  a50 := Try.isAgg118
  z50 := Try.sizeOf118
  v50 := Try.zeroValue118
  t53 := Try.underlying121
  a53 := Try.isAgg121
  z53 := Try.sizeOf121
  v53 := Try.zeroValue121
  t55 := Try.underlying123
  a55 := Try.isAgg123
  z55 := Try.sizeOf123
  v55 := Try.zeroValue123
  t66 := Try.underlying126
  a66 := Try.isAgg126
  z66 := Try.sizeOf126
  v66 := Try.zeroValue126
  t70 := Try.underlying130
  a70 := Try.isAgg130
  z70 := Try.sizeOf130
  v70 := Try.zeroValue130
  t76 := Try.underlying132
  a76 := Try.isAgg132
  z76 := Try.sizeOf132
  v76 := Try.zeroValue132
  t77 := Try.underlying60
  a77 := Try.isAgg60
  z77 := Try.sizeOf60
  v77 := Try.zeroValue60 }
end Go.Proofs
namespace Go.Proofs.Ytpjobcnfjpbaeaa.T
open Go.Shelf Go.Lib
open Go.Sort
open Go.RowKit Go.Proofs.YtpjobcnfjpbaeaaW.PrintWords Go.Proofs.YtpjobcnfjpbaeaaW.PrintLast Go.Proofs.YtpjobcnfjpbaeaaW.PrintMore
open Go.Proofs.Ytpjobcnfjpbaeaa.PA Go.Proofs.Ytpjobcnfjpbaeaa.A
def kP : Kd (Int × Int) := Kd.pair (Kd.int .i64) (Kd.int .i64)
def encP (x : Int × Int) : List Value := [.int .i64 x.1, .int .i64 x.2]
theorem cmpLays59 (blk off size : Nat) (w : World) : CmpLays Try.prog 59 #[] encP 2 cfP blk off size w := fun _ _ _ _ x y => cmp59_c x.1 x.2 y.1 y.2 _
theorem kP_K {W : World} {x : Int × Int} {cs : List Value} (h : kP.K W x cs) : cs = encP x := by
  obtain ⟨c0, c1, rfl, rfl, rfl⟩ := h
  rfl
theorem holds_of_R {W : World} {base : Nat} {ok : Nat → Prop} {g n c : Nat} {xs : List (Int × Int)} (h : Kd.R kP 86 W base ok (.slice (some ⟨g, 0, none⟩) n c) xs) : xs.length = n ∧ g < W.heap.size ∧ HoldsK encP 2 W g 0 xs.toArray := by
  obtain ⟨_, inner, ho, hr⟩ := h
  have hlt := own_lt ho g rfl
  obtain ⟨hl, h2⟩ := ho
  rcases h2 with ⟨h3, _⟩ | ⟨g', cap, cur, e, hb, hh, hn, hc, hsz, ht⟩
  · cases h3
  · simp only [Value.slice.injEq, Option.some.injEq, Addr.mk.injEq, and_true] at e
    obtain ⟨rfl, rfl, rfl⟩ := e
    refine ⟨rfl, hlt, fun t htt => ?_⟩
    have htt' : t < xs.length * 2 := by rw [size_flatK, List.size_toArray] at htt; exact htt
    rw [get_flatK _ _ _ _ (by rw [List.size_toArray]; exact htt')]
    have hj : t / 2 < xs.length := by omega
    have hk : (inner.drop (t / 2 * 2)).take 2 = encP xs[t / 2] := kP_K (kP.K_of_M (hr.2 (t / 2) xs[t / 2] (List.getElem?_eq_getElem hj)))
    have hcur : cur[t]? = some (encP (xs.toArray[t / 2]!))[t % 2]! := by
      have e1 : xs.toArray[t / 2]! = xs[t / 2] := by
        rw [getElem!_pos _ _ (by simpa using hj)]; simp
      rw [e1, ← hk]
      have e2 : inner[t]? = cur[t]? := by
        rw [← ht, List.getElem?_take, if_pos (by show t < xs.length * 2; exact htt')]; simp
      rw [← e2]
      have e3 : ((inner.drop (t / 2 * 2)).take 2)[t % 2]? = inner[t]? := by
        rw [List.getElem?_take, if_pos (Nat.mod_lt _ (by decide)), List.getElem?_drop]
        congr 1; omega
      rw [← e3]
      have hlen : t % 2 < ((inner.drop (t / 2 * 2)).take 2).length := by
        have h5 := congrArg List.length hk
        have : ((inner.drop (t / 2 * 2)).take 2).length = 2 := h5
        omega
      rw [getElem!_pos (List.take 2 (List.drop (t / 2 * 2) inner)) (t % 2) hlen]
      exact (List.getElem?_eq_getElem hlen)
    constructor
    · show W.cell? ⟨g, 0 + t, none⟩ = _
      simp [World.cell?, hh, hcur]
    · simp [World.frozen?, hh]
theorem reads_of_holds {W : World} {g : Nat} {d : Array (Int × Int)} (hs : d.size ≤ 9223372036854775807) (h : HoldsK encP 2 W g 0 d) : Kd.C kP W (some ⟨g, 0, none⟩) d.size d.toList := by
  refine ⟨by simp, hs, fun _ => ⟨_, rfl, fun j p hj => ⟨encP p, rfl, ⟨_, _, rfl, rfl, rfl⟩, fun i u hu => ?_⟩⟩⟩
  have hj2 : j < d.size := by
    have := (List.getElem?_eq_some_iff.1 hj).1
    simpa using this
  have hp : d[j]! = p := by
    rw [getElem!_pos d j hj2]
    have := (List.getElem?_eq_some_iff.1 hj).2
    simpa using this
  have hi : i < 2 := (List.getElem?_eq_some_iff.1 hu).1
  have h1 := (h.cell hj2 hi).1
  rw [hp] at h1
  have e9 : (⟨g, 0, none⟩ : Addr).add (j * kP.sz + i) = ⟨g, 0 + j * 2 + i, none⟩ := by simp [Addr.add, kP, Kd.pair, Kd.int, Kd.scalar]; omega
  rw [e9, h1, getElem!_pos _ _ (by exact hi)]
  exact congrArg some (List.getElem?_eq_some_iff.1 hu).2
theorem below_sorted {B : Nat} {w0 W : World} {g n : Nat} {d : Array (Int × Int)} {os : Array Obj} (h : Below B w0 W) (hB : B ≤ W.heap.size) (hg : B ≤ g) : Below B w0 (sortWorldK encP 2 W g 0 n d os) := by
  have h1 : Below B w0 (putRowK encP 2 (Sort.ahead W n) g 0 d) := by
    refine h.trans ⟨rfl, rfl, rfl, ?_, fun k hk => ?_⟩
    · show W.heap.size ≤ (W.heap.modify g _).size
      simp
    · show (W.heap.modify g _)[k]? = _
      rw [Array.getElem?_modify, if_neg (by omega)]
  have hz : W.heap.size ≤ (putRowK encP 2 (Sort.ahead W n) g 0 d).heap.size := by
    show W.heap.size ≤ (W.heap.modify g _).size
    simp
  refine h1.trans ⟨rfl, rfl, rfl, by simp [sortWorldK, grow], fun k hk => ?_⟩
  show ((putRowK encP 2 (Sort.ahead W n) g 0 d).heap ++ os)[k]? = _
  rw [Array.getElem?_append_left (by omega)]
theorem sort_c {w0 W : World} {base : Nat} {ok : Nat → Prop} {v : Value} {xs : List (Int × Int)} (h : Kd.R kP 86 W base ok v xs) (hnd : xs.Nodup) (hn : xs.length ≤ 40) (hB : Below w0.heap.size w0 W) (hbase : w0.heap.size ≤ base) :
    Calls Try.prog 58 #[v, .func (.func 59) #[] #[]] W fun e w' => e = .returned (.tuple #[]) ∧ Below w0.heap.size w0 w' ∧ W.heap.size ≤ w'.heap.size ∧ ∃ A c o, v = .slice A o.length c ∧ Hid (o.length = xs.length) ∧ Kd.C kP w' A o.length o ∧ o.Pairwise pl ∧ ∀ x, x ∈ o ↔ x ∈ xs := by
  have ho := h.2
  obtain ⟨inner, ⟨hl, h2⟩, hr⟩ := ho
  rcases h2 with ⟨rfl, h3⟩ | ⟨g, cap, cur, rfl, hb, _⟩
  · have : xs = [] := List.eq_nil_of_length_eq_zero h3
    subst this
    refine (AnyF.slices_SortFunc_none sort58 none 0 _ W).mono ?_
    rintro e w' ⟨rfl, rfl⟩
    exact ⟨rfl, hB, Nat.le_refl _, none, 0, [], rfl, Lib.hid rfl, ⟨rfl, by decide, fun h => absurd h (by decide)⟩, .nil, fun x => Iff.rfl⟩
  · obtain ⟨_, hlt, hH⟩ := holds_of_R h
    have hc := AnyQ.slices_SortFunc sort58 2 Try.isAgg86 Try.sizeOf86 encP (fun _ => rfl) (fun x u hu => by simp [encP] at hu; rcases hu with rfl | rfl <;> rfl) cfP ltP_swo 59 #[] g 0 cap xs.toArray W (enters_mk Try.func59 (by kernel_rfl) rfl) (cmpLays59 _ _ _ _) hH hlt (by simp; omega)
    have e : xs.toArray.size = xs.length := by simp
    rw [e] at hc
    refine Calls.mono hc ?_
    rintro e9 w' ⟨rfl, d', n, os, hp, hs, rfl⟩
    have hp' : PermIn 0 xs.toArray.size xs.toArray d' := by rw [e]; exact hp
    have hs' : SortedIn ltP 0 xs.toArray.size d' := by rw [e]; exact hs
    obtain ⟨g1, g2, g3⟩ := sorted_strict (by simpa using hnd) hp' hs'
    have hsz : d'.size = xs.length := by rw [g3, e]
    refine ⟨rfl, below_sorted hB hB.size (by omega), size_sortWorldK_c _ _ _ _ _ _ _ _, some ⟨g, 0, none⟩, cap, d'.toList, by simp [hsz], Lib.hid (by simp [hsz]), ?_, g1, fun x => by rw [g2 x]⟩
    have hr2 := reads_of_holds (by omega) (holdsK_sortWorldK_c encP 2 W g 0 xs.toArray d' n os hH hlt (by rw [hsz, e]))
    rwa [show d'.toList.length = d'.size by simp]
end Go.Proofs.Ytpjobcnfjpbaeaa.T

set_option linter.unusedVariables false
set_option linter.unusedSimpArgs false
namespace Go.Proofs.Ytpjobcnfjpbaeaa.T
open Go.RowKit Go.Proofs.YtpjobcnfjpbaeaaW.PrintWords Go.Proofs.YtpjobcnfjpbaeaaW.PrintLast Go.Proofs.YtpjobcnfjpbaeaaW.PrintMore
open Go.Proofs.Ytpjobcnfjpbaeaa.PA Go.Proofs.Ytpjobcnfjpbaeaa.A
def frmL (l : List S47) (i : Nat) : Int := (l.getD i z47).f0
def toL (l : List S47) (i : Nat) : Int := (l.getD i z47).f1
def rmL (rs : List Int) (i : Nat) : Int := rs.getD i 0
def atL (l : List S47) (rs : List Int) (i : Nat) : Int × Int := (frmL l i, rmL rs i)
def lvL (l : List S47) (rs : List Int) (x : Int × Int) : Bool := lvM (toL l) (rmL rs) l.length x.1 x.2
abbrev Flags (w : World) (M n : Nat) (m : Int → Int → Bool) : Prop := ∃ k D, w.ownsMap Try.prog 86 (plainElem (H := Unit) Try.prog 4) M k D ∧ k ≤ n ∧ MapIs keyS okK D m
theorem info86 : (Try.prog.info? 86).map (fun i => (i.zero, i.size, i.bytes)) = some (some (.agg #[.int .i64 0, .int .i64 0]), 2, 16) := by kernel_rfl
theorem kP_M (w : World) (base : Nat) (ok : Nat → Prop) (f r : Int) : kP.M w base ok (f, r) [.int .i64 f, .int .i64 r] := ⟨_, _, rfl, rfl, rfl⟩
theorem outP_len (a : Nat → Int × Int) (v : Int × Int → Bool) : ∀ n, (outP a v n).length ≤ n
  | 0 => Nat.le_refl _
  | n + 1 => by
    have := outP_len a v n
    unfold outP
    split
    · simp; omega
    · omega
theorem wf_of (x : Int) (h0 : 0 ≤ x) (h : x ≤ 1000000) : (Lit.int .i64 x).wf = true := by
  have h1 : IntKind.i64.min = -9223372036854775808 := by decide
  have h2 : IntKind.i64.max = 9223372036854775807 := by decide
  show (decide (IntKind.i64.min ≤ x) && decide (x ≤ IntKind.i64.max)) = true
  rw [h1, h2, decide_eq_true (show (-9223372036854775808 : Int) ≤ x by omega), decide_eq_true (show x ≤ 9223372036854775807 by omega)]
  rfl
theorem bool_elem (c : Bool) : plainElem (H := Unit) Try.prog 4 (.bool c) = some (.lit (.bool c), []) := plainElem_bool Try.underlying4 c
theorem flags_kept {w w' : World} {M n : Nat} {m : Int → Int → Bool} {row : Option Nat} (h : Flags w M n m) (hg : w.grownBy w' row) (hne : some M ≠ row) : Flags w' M n m := by
  obtain ⟨k, D, h1, h2, h3⟩ := h
  exact ⟨k, D, h1.kept hg hne, h2, h3⟩
set_option maxHeartbeats 8000000 in
set_option maxRecDepth 100000 in
theorem Turn_c (A0 : Option Addr) (c0 : Nat) (l : List S47) (A1 : Option Addr) (c1 : Nat) (rs : List Int) (w : World) (hr0 : Kd.C k47 w A0 l.length l) (hr1 : Kd.C (Kd.int .i64) w A1 l.length rs) (hlen : rs.length = l.length)
    (hb : areB l = true) (hneg : rs.any neg1 = false) (hl40 : l.length ≤ 40) (hok : ∀ x ∈ l, 0 ≤ x.f0 ∧ x.f0 < x.f1 ∧ x.f1 ≤ 60) (hwf : ∀ r ∈ rs, (Lit.int .i64 r).wf = true) (Post : Ending → World → Prop)
    (h1 : ∀ w' i, i < l.length → Clash (frmL l) (toL l) (rmL rs) i → Below w.heap.size w w' → Post (.returned (.tuple #[.slice none 0 0, .int .i64 2])) w')
    (h2 : ∀ v w' o, (∀ i, i < l.length → ¬ Clash (frmL l) (toL l) (rmL rs) i) → o.Pairwise pl → (∀ x, x ∈ o ↔ x ∈ outP (atL l rs) (lvL l rs) l.length) → Kd.R kP 24 w' w.heap.size (fun _ => True) v o → Below w.heap.size w w' → Post (.returned (.tuple #[v, .int .i64 0])) w') :
    Calls Try.prog 39 #[.slice A0 l.length c0, .slice A1 l.length c1] w Post := by
  have H47 : Hid (Calls Try.prog 47 #[.slice A0 l.length c0] w fun e w' => e = .returned (.bool true) ∧ Below w.heap.size w w') := by have := areB_c A0 c0 l w hr0; rw [hb] at this; exact Lib.hid this
  have H56 : Hid (∀ W, Below w.heap.size w W → Calls Try.prog 56 #[.slice A1 l.length c1, .func (.func 57) #[] #[]] W fun e w' => e = .returned (.bool false) ∧ Below W.heap.size W w') := by
    refine Lib.hid fun W hW => ?_
    rw [← hlen] at hr1 ⊢
    have := hasInt_c 57 #[] neg1 A1 c1 rs W enters57 (pred57 W) (Kd.C_below hr1 hW)
    rw [hneg] at this; exact this
  have HBK : Hid (∀ (i : Nat) W, i < l.length → Below w.heap.size w W → ∃ (ad : Addr) (f t p : Int), A0 = some ad ∧ f = frmL l i ∧ t = toL l i ∧ 0 ≤ f ∧ f < t ∧ t ≤ 60 ∧ W.cell? (ad.add (i * 3)) = some (.int .i64 f) ∧ W.cell? ⟨(ad.add (i * 3)).block, (ad.add (i * 3)).off + 1, none⟩ = some (.int .i64 t) ∧ W.cell? ⟨(ad.add (i * 3)).block, (ad.add (i * 3)).off + 2, none⟩ = some (.int .i64 p)) := by
    refine Lib.hid fun i W hi hW => ?_
    obtain ⟨ad, x, eA, HX, c1, c2, c3⟩ := at_bk hr0 hW i hi
    have hx := HX.out
    have e : l.getD i z47 = x := by rw [List.getD_eq_getElem?_getD, hx]; rfl
    have hm : x ∈ l := List.mem_of_getElem? hx
    obtain ⟨g1, g2, g3⟩ := hok x hm
    exact ⟨ad, x.f0, x.f1, x.f2, eA, by unfold frmL; rw [e], by unfold toL; rw [e], g1, g2, g3, c1, c2, c3⟩
  have HRM : Hid (∀ (i : Nat) W, i < l.length → Below w.heap.size w W → ∃ (ad : Addr) (r : Int), A1 = some ad ∧ r = rmL rs i ∧ (Lit.int .i64 r).wf = true ∧ (ad.add i).block < w.heap.size ∧ W.cell? (ad.add i) = some (.int .i64 r)) := by
    refine Lib.hid fun i W hi hW => ?_
    rw [← hlen] at hr1
    obtain ⟨ad, x, eA, HX, c1⟩ := at_int hr1 hW i (by omega)
    have hx := HX.out
    exact ⟨ad, x, eA, by unfold rmL; rw [List.getD_eq_getElem?_getD, hx]; rfl, hwf x (List.mem_of_getElem? hx), by
      obtain ⟨ad2, x2, eA2, _, c2⟩ := at_int hr1 (Below.refl _ _) i (by omega)
      obtain rfl : ad = ad2 := by rw [eA] at eA2; injection eA2
      exact World.block_lt_of_cell? w (ad.add i) c2, c1⟩
  have HVAL : Hid (∀ j, j < l.length → frmL l j < toL l j) := by
    refine Lib.hid fun j hj => ?_
    have hm : l[j] ∈ l := List.getElem_mem hj
    have e : l.getD j z47 = l[j] := by rw [List.getD_eq_getElem?_getD, List.getElem?_eq_getElem hj]; rfl
    unfold frmL toL
    rw [e]
    exact (hok _ hm).2.1
  have HP1 := Lib.hid h1
  have HP2 := Lib.hid h2
  have hmm := @run_makeMap Try.prog
  clear hr0 hr1 hlen hb hneg hok hwf h1 h2
  go_enter Try.func39, Try.ntmps39
  go_upto_region 3 with (first | (go_at_call 47; (with_reducible refine H47.out.mono ?_); rintro e w' ⟨rfl, hb1⟩) | (go_at_call 56; (with_reducible refine (H56.out _ hb1).mono ?_); rintro e w2 ⟨rfl, hb2⟩; have hb3 := hb1.trans (hb2.mono hb1.size)))
  clear H47 H56 hb2 hb1
  obtain ⟨M, hM⟩ : ∃ M, w2.heap.size = M := ⟨_, rfl⟩
  have hMw : w.heap.size ≤ M := by rw [← hM]; exact hb3.size
  have hB4 : Below w.heap.size w ((w2.alloc (.map #[] 0)).alloc (.map #[] 0)) := (hb3.alloc hb3.size _).alloc (by simp; omega) _
  have hO1 : ((w2.alloc (.map #[] 0)).alloc (.map #[] 0)).ownsMap Try.prog 86 (plainElem (H := Unit) Try.prog 4) M 0 (.map []) := by rw [← hM]; exact (World.ownsMap_made w2 Try.prog 86 _).alloc _
  have hO2 : ((w2.alloc (.map #[] 0)).alloc (.map #[] 0)).ownsMap Try.prog 86 (plainElem (H := Unit) Try.prog 4) (M + 1) 0 (.map []) := by
    have := World.ownsMap_made (H := Unit) (w2.alloc (.map #[] 0)) Try.prog 86 (plainElem Try.prog 4)
    have hz : (w2.alloc (.map #[] 0)).heap.size = M + 1 := by simp [hM]
    rwa [hz] at this
  have hz4 : ((w2.alloc (.map #[] 0)).alloc (.map #[] 0)).heap.size = M + 2 := by simp [hM]
  go_upto_region 4 with fail
  generalize ((w2.alloc (.map #[] 0)).alloc (.map #[] 0)) = w4 at *
  have HO1 : Hid (Flags w4 M (60 * 0) (stM (frmL l) (toL l) (rmL rs) 0 (frmL l 0))) := Lib.hid ⟨0, _, hO1, Nat.le_refl _, (MapIs.start keyS okK).congr (fun t r => stM_start t r)⟩
  have HO2 : Hid (Flags w4 (M + 1) 0 (lvM (toL l) (rmL rs) 0)) := Lib.hid ⟨0, _, hO2, Nat.le_refl _, (MapIs.start keyS okK).congr (fun t r => rfl)⟩
  have HB4 := Lib.hid hB4
  clear hO1 hO2 hB4 hb3 hM hmm
  go_wp2_with fail
  go_loopw [8, 9, 10, 11, 37] (fun _ _ _ _ v37 wr => ∃ i : Nat, v37 = .int .i64 (i : Int) ∧ i ≤ l.length ∧ M + 2 ≤ wr.heap.size ∧ Hid (Flags wr M (60 * i) (stM (frmL l) (toL l) (rmL rs) i (frmL l i))) ∧ Hid (Flags wr (M + 1) i (lvM (toL l) (rmL rs) i)) ∧ Hid (Below w.heap.size w wr) ∧ Hid (∀ j, j < i → ¬ Clash (frmL l) (toL l) (rmL rs) j)) (fun _ _ _ _ v37 _ => l.length - (intOf v37).toNat)
  case atStart => exact ⟨0, rfl, Nat.zero_le _, Nat.le_of_eq hz4.symm, HO1, HO2, HB4, Lib.hid (fun j hj => absurd hj (Nat.not_lt_zero _))⟩
  case round =>
    rename World => wr
    obtain ⟨i, rfl, hi, hsz, HF1, HF2, HBr, HNC⟩ := hrel
    by_cases hlt : i < l.length
    · have hlt' : (i : Int) < (l.length : Int) := by omega
      have hi0 : (0 : Int) ≤ (i : Int) := by omega
      obtain ⟨ad, f, t, p, rfl, hf, ht, b1, b2, b3, e0, e1, e2⟩ := HBK.out i wr hlt HBr.out
      have HFE := Lib.hid hf
      have HTE := Lib.hid ht
      clear hf ht
      go_upto_region 7 with fail
      have hBx : Below w.heap.size w (wr.alloc (Obj.cells #[Value.int IntKind.i64 f, Value.int IntKind.i64 t, Value.int IntKind.i64 p] 47)) := HBr.out.alloc HBr.out.size _
      have hg : wr.grownBy (wr.alloc (Obj.cells #[Value.int IntKind.i64 f, Value.int IntKind.i64 t, Value.int IntKind.i64 p] 47)) none := World.grownBy_alloc _ _ _
      have hx0 : (wr.alloc (Obj.cells #[Value.int IntKind.i64 f, Value.int IntKind.i64 t, Value.int IntKind.i64 p] 47)).cell? ⟨wr.heap.size, 0, none⟩ = some (.int .i64 f) := by simp [go_sem]
      have hx1 : (wr.alloc (Obj.cells #[Value.int IntKind.i64 f, Value.int IntKind.i64 t, Value.int IntKind.i64 p] 47)).cell? ⟨wr.heap.size, 1, none⟩ = some (.int .i64 t) := by simp [go_sem]
      have hxs : (wr.alloc (Obj.cells #[Value.int IntKind.i64 f, Value.int IntKind.i64 t, Value.int IntKind.i64 p] 47)).heap.size = wr.heap.size + 1 := by simp
      obtain ⟨bx, hbx⟩ : ∃ bx, wr.heap.size = bx := ⟨_, rfl⟩
      rw [hbx] at hx0 hx1 hxs hsz ⊢
      have HFX1 := Lib.hid (flags_kept HF1.out hg (by simp))
      have HFX2 := Lib.hid (flags_kept HF2.out hg (by simp))
      obtain ⟨ar, r, eA1, hr, hrw, hra, er⟩ := HRM.out i _ hlt hBx
      generalize (wr.alloc (Obj.cells #[Value.int IntKind.i64 f, Value.int IntKind.i64 t, Value.int IntKind.i64 p] 47)) = wx at *
      subst eA1
      have HBX := Lib.hid hBx
      have HRE := Lib.hid hr
      have HX1 := Lib.hid hx1
      have HER := Lib.hid er
      clear hg HF1 HF2 HBr e0 e1 e2 hbx hBx hr
      go_wp2_with fail
      go_loopw [10, 11] (fun v10 _ wq => ∃ u : Int, v10 = .int .i64 u ∧ f ≤ u ∧ u ≤ t ∧ Hid (Flags wq M (60 * i + (u - f).toNat) (stM (frmL l) (toL l) (rmL rs) i u)) ∧ Hid (wx.grownBy wq (some M)) ∧ Hid (∀ u', f ≤ u' → u' < u → stM (frmL l) (toL l) (rmL rs) i u' u' r = false)) (fun v10 _ _ => (t - intOf v10).toNat)
      case atStart => exact ⟨f, rfl, Int.le_refl _, by omega, Lib.hid (by rw [Int.sub_self]; rw [HFE.out]; exact HFX1.out), Lib.hid (World.grownBy.refl _ _), Lib.hid (fun u' h1 h2 => by omega)⟩
      case round =>
        rename World => wq
        obtain ⟨u, rfl, hfu, hut, HF, HG, HNO⟩ := hrel
        have c1 := HG.out.cell HX1.out (by simp; omega)
        by_cases hult : u < t
        · have c2 := HG.out.cell HER.out (show some (ar.add i).block ≠ some M from fun h9 => by injection h9 with h9; omega)
          have hkk : okK u r := ⟨wf_of u (by omega) (by omega), hrw⟩
          go_upto_region 11 with fail
          have hfa := flags_kept HF.out (World.grownBy_alloc wq (Obj.cells #[Value.int IntKind.i64 u, Value.int IntKind.i64 r] 86) none) (by simp)
          have hga : wx.grownBy (wq.alloc (Obj.cells #[Value.int IntKind.i64 u, Value.int IntKind.i64 r] 86)) (some M) := HG.out.trans (World.grownBy_alloc _ _ _)
          have hw0 : (wq.alloc (Obj.cells #[Value.int IntKind.i64 u, Value.int IntKind.i64 r] 86)).cell? ⟨wq.heap.size, 0, none⟩ = some (.int .i64 u) := by simp [go_sem]
          have hw1 : (wq.alloc (Obj.cells #[Value.int IntKind.i64 u, Value.int IntKind.i64 r] 86)).cell? ⟨wq.heap.size, 1, none⟩ = some (.int .i64 r) := by simp [go_sem]
          obtain ⟨bq, hbq⟩ : ∃ bq, wq.heap.size = bq := ⟨_, rfl⟩
          rw [hbq] at hw0 hw1 ⊢
          generalize (wq.alloc (Obj.cells #[Value.int IntKind.i64 u, Value.int IntKind.i64 r] 86)) = wa at *
          obtain ⟨k, D, hown, hk, hmap⟩ := hfa
          obtain ⟨c, hlook, hc⟩ := look_bool hown hkk
          have hcm : c = stM (frmL l) (toL l) (rmL rs) i u u r := by
            have := hc.symm.trans (hmap.2 u r hkk)
            injection this with this
            injection this
          have HOWN := Lib.hid hown
          have HMAP := Lib.hid hmap
          have HGA := Lib.hid hga
          have HCM := Lib.hid hcm
          clear hc hcm hown hmap hga hbq HF HG c1 c2
          cases c with
          | true =>
            go_wp2_with fail
            show Post (.returned (.tuple #[.slice none 0 0, .int .i64 2])) wa
            refine HP1.out _ i hlt ?_ ?_
            · have h9 := HCM.out.symm
              rw [HRE.out] at h9
              exact clash_of (by rw [← HFE.out]; exact hfu) (by rw [← HTE.out]; exact hult) h9
            · exact HBX.out.grown HGA.out HBX.out.size (fun k hk => by cases hk; exact hMw)
          | false =>
            go_wp2_with (at_mapUpdate; refine wpList_mapUpdate_own _ rfl _ _ _ 84 rfl 86 4 keyed86 lay84 _ M k D rfl HOWN.out (by unfold maxLen; omega) _ _ _ rfl rfl (key86 hkk) _ [] (bool_elem true) ?_)
            intro w5 hown5 hgrow5
            have HF5 : Hid (Flags w5 M (60 * i + (u + 1 - f).toNat) (stM (frmL l) (toL l) (rmL rs) i (u + 1))) := by
              refine Lib.hid ⟨k + 1, _, hown5, by omega, ?_⟩
              have h9 := HMAP.out.put keyS_key keyS_inj hkk
              refine h9.congr (fun t' r' => ?_)
              rw [HRE.out]
              exact stM_put (by rw [← HFE.out]; exact hfu) t' r'
            have HG5 := Lib.hid (HGA.out.trans hgrow5)
            have HNO5 : Hid (∀ u', f ≤ u' → u' < u + 1 → stM (frmL l) (toL l) (rmL rs) i u' u' r = false) := by
              refine Lib.hid fun u' g1 g2 => ?_
              by_cases e : u' = u
              · rw [e]; exact HCM.out.symm
              · exact HNO.out u' g1 (by omega)
            clear hown5 hgrow5
            go_wp2_with fail
            exact ⟨⟨u + 1, by go_num, by omega, by omega, HF5, HG5, HNO5⟩, by simp [intOf]; omega⟩
        · obtain rfl : u = t := by omega
          have c2 := HG.out.cell HER.out (show some (ar.add i).block ≠ some M from fun h9 => by injection h9 with h9; omega)
          have hkk : okK u r := ⟨wf_of u (by omega) (by omega), hrw⟩
          have CE : Hid (∀ w', R.Keeps [] wq w' → w'.cell? ⟨bx, 1, none⟩ = some (.int .i64 u) ∧ w'.cell? (ar.add i) = some (.int .i64 r)) := Lib.hid (fun w' hw => ⟨hw.cell c1 (by simp), hw.cell c2 (by simp)⟩)
          have hf2 := flags_kept HFX2.out HG.out (by simp)
          have HF2 : Hid (Flags wq.drew (M + 1) i (lvM (toL l) (rmL rs) i)) := Lib.hid (flags_kept (row := none) hf2 ⟨rfl, rfl, rfl, Nat.le_refl _, fun _ _ _ => rfl⟩ (by simp))
          have HF1 : Hid (Flags wq.drew M (60 * (i + 1)) (stM (frmL l) (toL l) (rmL rs) (i + 1) (frmL l (i + 1)))) := by
            obtain ⟨k, D, g1, g2, g3⟩ := HF.out
            refine Lib.hid ⟨k, D, g1.drew, by omega, g3.congr (fun t' r' => ?_)⟩
            rw [HTE.out]
            exact stM_next t' r'
          have HNC1 : Hid (∀ j, j < i + 1 → ¬ Clash (frmL l) (toL l) (rmL rs) j) := by
            refine Lib.hid fun j hj => ?_
            by_cases e : j = i
            · subst e
              refine no_clash (fun q hq => HVAL.out q (by omega)) (fun t' g1 g2 => ?_)
              rw [← HRE.out]
              exact HNO.out t' (by rw [HFE.out]; exact g1) (by rw [HTE.out]; exact g2)
            · exact HNC.out j (by omega)
          obtain ⟨k, D, hown, hk, hmap⟩ := HF2.out
          have HOWN := Lib.hid hown
          have HMAP := Lib.hid hmap
          have HGD := Lib.hid (HG.out.trans (show wq.grownBy wq.drew (some M) from ⟨rfl, rfl, rfl, Nat.le_refl _, fun _ _ _ => rfl⟩))
          clear hf2 hown hmap HF HG c2
          go_wp2_with fail
          apply R.wp_region_text [0, 1, 2, 3, 4, 5, 6, 7] [8] 8 (R.Keeps [] wq)
          case hm => kernel_rfl
          case hB => kernel_rfl
          case hd => rfl
          case hQ => exact fun _ _ _ _ _ h => h
          case hS => exact (R.Keeps.refl _ _).drew
          case hF =>
            intro w' hS
            obtain ⟨y0, y1⟩ := CE.out w' hS
            clear hS
            simp only [R.pickC, List.filterMap_cons, List.getElem?_toArray, List.getElem?_cons_zero, List.getElem?_cons_succ, List.filterMap_nil]
            (with_reducible refine R.wpStill_plain rfl (fun K hK => ?_)); go_simp; with_reducible refine hK _ ?_; clear hK K
            (with_reducible refine R.wpStill_plain rfl (fun K hK => ?_)); go_simp; with_reducible refine hK _ ?_; clear hK K
            (with_reducible refine R.wpStill_plain rfl (fun K hK => ?_)); go_simp; with_reducible refine hK _ ?_; clear hK K
            (with_reducible refine R.wpStill_plain rfl (fun K hK => ?_)); go_simp; with_reducible refine hK _ ?_; clear hK K
            (with_reducible refine R.wpStill_plain rfl (fun K hK => ?_)); go_simp; with_reducible refine hK _ ?_; clear hK K
            (with_reducible refine R.wpStill_plain rfl (fun K hK => ?_)); go_simp; with_reducible refine hK _ ?_; clear hK K
            (with_reducible refine R.wpStill_plain rfl (fun K hK => ?_)); go_simp; with_reducible refine hK _ ?_; clear hK K
            (with_reducible refine R.wpStill_plain rfl (fun K hK => ?_)); go_simp; with_reducible refine hK _ ?_; clear hK K
            exact wpStill_nil rfl
          case hC =>
            simp only [R.chainOf, List.getElem?_toArray, List.getElem?_cons_zero, List.getElem?_cons_succ, Nat.reduceBNe, Bool.and_true, Bool.and_false, Bool.false_and]
            refine R.wpSeq_tail _ rfl ?_
            refine wpList_mapUpdate_own _ rfl _ _ _ 84 rfl 86 4 keyed86 lay84 _ (M + 1) k D rfl HOWN.out (by unfold maxLen; omega) _ _ _ rfl rfl (key86 hkk) _ [] (bool_elem true) ?_
            intro w5 hown5 hgrow5
            have HF5 : Hid (Flags w5 (M + 1) (i + 1) (lvM (toL l) (rmL rs) (i + 1))) := by
              refine Lib.hid ⟨k + 1, _, hown5, by omega, ?_⟩
              have h9 := HMAP.out.put keyS_key keyS_inj hkk
              refine h9.congr (fun t' r' => ?_)
              rw [HRE.out, HTE.out]
              exact lvM_put (toL l) (rmL rs) i t' r'
            have HF6 := Lib.hid (flags_kept HF1.out hgrow5 (by simp))
            have hsz5 : M + 2 ≤ w5.heap.size := by have := hgrow5.size; have := HGD.out.size; omega
            have HB5 : Hid (Below w.heap.size w w5) := by
              refine Lib.hid ((HBX.out.grown HGD.out HBX.out.size (fun k hk => by cases hk; exact hMw)).grown hgrow5 ?_ (fun k hk => by cases hk; omega))
              have := HGD.out.size; have := HBX.out.size; omega
            clear hown5 hgrow5
            go_wp2_with fail
            exact ⟨⟨i + 1, by go_num, by omega, hsz5, HF6, HF5, HB5, HNC1⟩, by simp [intOf]; omega⟩
    · obtain rfl : i = l.length := by omega
      have HBW := HBr
      have HNCX := HNC
      have HFL : Hid (Flags wr (M + 1) l.length (leftM (atL l rs) (lvL l rs) 0)) := by
        obtain ⟨k, D, g1, g2, g3⟩ := HF2.out
        exact Lib.hid ⟨k, D, g1, g2, g3.congr (fun t' r' => left_start (atL l rs) (lvL l rs) t' r')⟩
      clear HF1 HF2 HB4 HO1 HO2 HVAL
      generalize wr = w5 at *
      go_wp2_with fail
      go_loopw [12, 13, 14, 15, 72] (fun v12 _ _ _ v72 wq => ∃ k : Nat, v72 = .int .i64 (k : Int) ∧ k ≤ l.length ∧ M + 2 ≤ wq.heap.size ∧ Hid (Flags wq (M + 1) l.length (leftM (atL l rs) (lvL l rs) k)) ∧ Hid (Kd.R kP 86 wq (M + 2) (fun b => M + 2 ≤ b) v12 (outP (atL l rs) (lvL l rs) k)) ∧ Hid (Below w.heap.size w wq)) (fun _ _ _ _ v72 _ => l.length - (intOf v72).toNat)
      case atStart => exact ⟨0, rfl, Nat.zero_le _, hsz, HFL, Lib.hid (Kd.R_nil _ _ _ _ _), HBW⟩
      case round =>
        rename World => wq
        obtain ⟨k, rfl, hk, hszq, HF, HR, HBq⟩ := hrel
        by_cases hlt : k < l.length
        · have hlt' : (k : Int) < (l.length : Int) := by omega
          have hk0 : (0 : Int) ≤ (k : Int) := by omega
          obtain ⟨ad, f, t, p, rfl, hf, ht, b1, b2, b3, e0, e1, e2⟩ := HBK.out k wq hlt HBq.out
          obtain ⟨ar, r, rfl, hr, hrw, hra, er⟩ := HRM.out k wq hlt HBq.out
          have hkk : okK f r := ⟨wf_of f (by omega) (by omega), hrw⟩
          have HAT : Hid (atL l rs k = (f, r)) := by refine Lib.hid ?_; unfold atL; rw [hf, hr]
          clear hf ht hr
          go_upto_region 20 with fail
          have hx0 : (wq.alloc (Obj.cells #[Value.int IntKind.i64 f, Value.int IntKind.i64 t, Value.int IntKind.i64 p] 47)).cell? ⟨wq.heap.size, 0, none⟩ = some (.int .i64 f) := by simp [go_sem]
          have hxs : (wq.alloc (Obj.cells #[Value.int IntKind.i64 f, Value.int IntKind.i64 t, Value.int IntKind.i64 p] 47)).heap.size = wq.heap.size + 1 := by simp
          have hg : wq.grownBy (wq.alloc (Obj.cells #[Value.int IntKind.i64 f, Value.int IntKind.i64 t, Value.int IntKind.i64 p] 47)) none := World.grownBy_alloc _ _ _
          have er2 := hg.cell er (by simp)
          obtain ⟨bx, hbx⟩ : ∃ bx, wq.heap.size = bx := ⟨_, rfl⟩
          have HLT : Hid (∀ k, u12.ownBlock = some k → k < bx) := Lib.hid (fun k hk => by have := ((Kd.R_bound HR.out).1 k hk).2.2.1; omega)
          rw [hbx] at hx0 hxs ⊢
          generalize (wq.alloc (Obj.cells #[Value.int IntKind.i64 f, Value.int IntKind.i64 t, Value.int IntKind.i64 p] 47)) = wx at *
          have CE : Hid (∀ w', R.Keeps [] wx w' → w'.cell? ⟨bx, 0, none⟩ = some (.int .i64 f) ∧ w'.cell? (ar.add k) = some (.int .i64 r)) := Lib.hid (fun w' hw => ⟨hw.cell hx0 (by simp), hw.cell er2 (by simp)⟩)
          clear e0 e1 e2 er er2 hx0
          apply R.wp_region_text [0, 1, 2, 3, 4, 5, 6] [7, 8] 8 (R.Keeps [] wx)
          case hm => kernel_rfl
          case hB => kernel_rfl
          case hd => rfl
          case hQ => exact fun _ _ _ _ _ h => h
          case hS => exact (R.Keeps.refl _ _).drew
          case hF =>
            intro w' hS
            obtain ⟨y0, y1⟩ := CE.out w' hS
            clear hS
            simp only [R.pickC, List.filterMap_cons, List.getElem?_toArray, List.getElem?_cons_zero, List.getElem?_cons_succ, List.filterMap_nil]
            (with_reducible refine R.wpStill_plain rfl (fun K hK => ?_)); go_simp; with_reducible refine hK _ ?_; clear hK K
            (with_reducible refine R.wpStill_plain rfl (fun K hK => ?_)); go_simp; with_reducible refine hK _ ?_; clear hK K
            (with_reducible refine R.wpStill_plain rfl (fun K hK => ?_)); go_simp; with_reducible refine hK _ ?_; clear hK K
            (with_reducible refine R.wpStill_plain rfl (fun K hK => ?_)); go_simp; with_reducible refine hK _ ?_; clear hK K
            (with_reducible refine R.wpStill_plain rfl (fun K hK => ?_)); go_simp; with_reducible refine hK _ ?_; clear hK K
            (with_reducible refine R.wpStill_plain rfl (fun K hK => ?_)); go_simp; with_reducible refine hK _ ?_; clear hK K
            (with_reducible refine R.wpStill_plain rfl (fun K hK => ?_)); go_simp; with_reducible refine hK _ ?_; clear hK K
            exact wpStill_nil rfl
          case hC =>
            simp only [R.chainOf, List.getElem?_toArray, List.getElem?_cons_zero, List.getElem?_cons_succ, Nat.reduceBNe, Bool.and_true, Bool.and_false, Bool.false_and]
            refine R.wpSeq_same (fun K hK => ?_)
            go_simp
            with_reducible refine hK _ _ ((R.Keeps.refl [] wx).alloc _).drew ?_
            clear hK K
            refine R.wpSeq_tail _ rfl ?_
            simp only [List.map_cons, List.map_nil]
            go_upto_region 21 with fail
            have hgy : wq.grownBy (wx.alloc (Obj.cells #[Value.int IntKind.i64 f, Value.int IntKind.i64 r] 86)).drew none := hg.trans ((World.grownBy_alloc wx _ _).trans ⟨rfl, rfl, rfl, Nat.le_refl _, fun _ _ _ => rfl⟩)
            have hy0 : (wx.alloc (Obj.cells #[Value.int IntKind.i64 f, Value.int IntKind.i64 r] 86)).drew.cell? ⟨bx + 1, 0, none⟩ = some (.int .i64 f) := by rw [← hxs]; simp [go_sem]
            have hy1 : (wx.alloc (Obj.cells #[Value.int IntKind.i64 f, Value.int IntKind.i64 r] 86)).drew.cell? ⟨bx + 1, 1, none⟩ = some (.int .i64 r) := by rw [← hxs]; simp [go_sem]
            generalize (wx.alloc (Obj.cells #[Value.int IntKind.i64 f, Value.int IntKind.i64 r] 86)).drew = wy at *
            have hgy2 := hgy.size
            have hbyw := hgy.block
            have HFy := flags_kept HF.out hgy (by simp)
            have HRy : Hid (Kd.R kP 86 wy (M + 2) (fun b => M + 2 ≤ b) u12 (outP (atL l rs) (lvL l rs) k)) := Lib.hid (Kd.R_grown HR.out hgy (fun _ _ => by simp))
            have HBy : Hid (Below w.heap.size w wy) := Lib.hid (HBq.out.grown hgy HBq.out.size (fun k hk => by cases hk))
            obtain ⟨n, D, hown, hn, hmap⟩ := HFy
            obtain ⟨c, hlook, hc⟩ := look_bool hown hkk
            have hcm : c = leftM (atL l rs) (lvL l rs) k f r := by
              have := hc.symm.trans (hmap.2 f r hkk)
              injection this with this
              injection this
            have HOWN := Lib.hid hown
            have HMAP := Lib.hid hmap
            have HCM := Lib.hid hcm
            have hszy : M + 2 ≤ wy.heap.size := by omega
            clear hc hcm hown hmap hgy hg hgy2 hbyw HF HR HBq CE
            cases c with
            | true =>
              go_wp2_with (first | (at_builtin; refine Kd.R_append kP (w0 := wy) (M + 2) rfl (.tmp 87) (.tmp 89) 87 86 (.agg #[.int .i64 0, .int .i64 0]) 16 rfl Try.underlying87 info86 rfl (by decide) (by omega) _ (outP (atL l rs) (lvL l rs) k) (f, r) [.int .i64 f, .int .i64 r] (fun b => M + 2 ≤ b) (fun _ => False) rfl rfl ?aP (fun _ hk => hk.elim) (fun b hb => by omega) ?aO ?aB ?aS ?aL ?_))
              case aP => exact kP_M _ _ _ _ _
              case aO => exact HRy.out
              case aB => exact Below.refl _ _
              case aS => exact hszy
              case aL => have := outP_len (atL l rs) (lvL l rs) k; omega
              intro v1 w6 hR6 hB6 hG6 _
              have hown6 := HOWN.out.kept hG6 (fun e9 => by have := HRy.out.1 (M + 1) e9.symm; omega)
              have HO6 := Lib.hid hown6
              have c61 := hG6.cell hy0 (fun e9 => by have := HLT.out (bx + 1) e9.symm; omega)
              have c62 := hG6.cell hy1 (fun e9 => by have := HLT.out (bx + 1) e9.symm; omega)
              have HR6 := Lib.hid hR6
              have HB6 : Hid (Below w.heap.size w w6) := Lib.hid (HBy.out.trans (hB6.mono (by omega)))
              have hs6 : M + 2 ≤ w6.heap.size := by have := hG6.size; omega
              clear hown6 hR6 hB6 hG6
              go_wp2_with (at_delete; refine wpList_delete_own _ rfl _ _ 84 86 rfl 4 keyed86 lay84 _ (M + 1) n D rfl HO6.out _ _ rfl (key86 hkk) ?_)
              intro w7 hown7 hturn7
              have hg7 := hturn7.grown
              have hl := left_take (at_ := atL l rs) (leaves := lvL l rs) (k := k) (by rw [HAT.out]; exact HCM.out.symm)
              have HF7 : Hid (Flags w7 (M + 1) l.length (leftM (atL l rs) (lvL l rs) (k + 1))) := by
                refine Lib.hid ⟨n, _, hown7, hn, (HMAP.out.del keyS_inj hkk).congr (fun t' r' => ?_)⟩
                have := (hl t' r').1
                rw [HAT.out] at this
                exact this
              have HR7 : Hid (Kd.R kP 86 w7 (M + 2) (fun b => M + 2 ≤ b) v1 (outP (atL l rs) (lvL l rs) (k + 1))) := by
                refine Lib.hid ?_
                rw [(hl 0 0).2, HAT.out]
                exact Kd.R_grown HR6.out hg7 (fun k hk e9 => by injection e9 with e9; omega)
              have HB7 : Hid (Below w.heap.size w w7) := Lib.hid (HB6.out.grown hg7 HB6.out.size (fun k hk => by injection hk with hk; omega))
              have hs7 : M + 2 ≤ w7.heap.size := by have := hg7.size; omega
              clear hg7 hturn7 hown7 hl
              go_wp2_with fail
              exact ⟨⟨k + 1, by go_num, by omega, hs7, HF7, HR7, HB7⟩, by simp [intOf]; omega⟩
            | false =>
              have hl := left_skip (at_ := atL l rs) (leaves := lvL l rs) (k := k) (by rw [HAT.out]; exact HCM.out.symm)
              have HF7 : Hid (Flags wy (M + 1) l.length (leftM (atL l rs) (lvL l rs) (k + 1))) := Lib.hid ⟨n, _, HOWN.out, hn, HMAP.out.congr (fun t' r' => hl.1 t' r')⟩
              have HR7 : Hid (Kd.R kP 86 wy (M + 2) (fun b => M + 2 ≤ b) u12 (outP (atL l rs) (lvL l rs) (k + 1))) := by rw [hl.2]; exact HRy
              clear hl
              go_wp2_with fail
              exact ⟨⟨k + 1, by go_num, by omega, hszy, HF7, HR7, HBy⟩, by simp [intOf]; omega⟩
        · obtain rfl : k = l.length := by omega
          have HND := Lib.hid (outP_nodup (atL l rs) (lvL l rs) l.length)
          have HOL := Lib.hid (outP_len (atL l rs) (lvL l rs) l.length)
          have HS := Lib.hid (sort_c (w0 := w) HR.out HND.out (by have := HOL.out; omega) HBq.out (by omega))
          clear HF HBK HRM HP1 HBW HFL
          go_upto_region 26 with (first | (go_at_call 58; (with_reducible refine HS.out.mono ?_); rintro e wS ⟨rfl, hBS, hszS, A, c, o, rfl, hol, hC, hpw, hmem⟩))
          have HBS := Lib.hid hBS
          have HPW := Lib.hid hpw
          have HMEM := Lib.hid hmem
          have HC := Lib.hid hC
          have hol40 : o.length ≤ 40 := by have := HOL.out; have := hol.out; omega
          obtain ⟨B, hB⟩ : ∃ B, wS.heap.size = B := ⟨_, rfl⟩
          have HSZ := Lib.hid hB
          have hMB : w.heap.size ≤ B := by have := hBS.size; omega
          clear hBS hpw hmem hC hol hszS hB HS HR HND HOL
          go_wp2_with fail
          go_loopw [16, 18, 98] (fun v16 _ v98 wz => ∃ j : Nat, v98 = .int .i64 (j : Int) ∧ j ≤ o.length ∧ B ≤ wz.heap.size ∧ Hid (Kd.R kP 24 wz B (fun _ => True) v16 (o.take j)) ∧ Hid (Below B wS wz)) (fun _ _ v98 _ => o.length - (intOf v98).toNat)
          case atStart => exact ⟨0, rfl, Nat.zero_le _, Nat.le_of_eq HSZ.out.symm, Lib.hid (Kd.R_nil _ _ _ _ _), Lib.hid (Below.refl _ _)⟩
          case round =>
            rename World => wz
            obtain ⟨j, rfl, hj, hszz, HQ, HBz⟩ := hrel
            by_cases hlj : j < o.length
            · have hlj' : (j : Int) < (o.length : Int) := by omega
              have hj0 : (0 : Int) ≤ (j : Int) := by omega
              obtain ⟨ad, a, b, rfl, HO, c0, c1⟩ : ∃ ad a b, A = some ad ∧ Hid (o[j]? = some (a, b)) ∧ wz.cell? (ad.add (j * 2)) = some (.int .i64 a) ∧ wz.cell? ⟨(ad.add (j * 2)).block, (ad.add (j * 2)).off + 1, none⟩ = some (.int .i64 b) := by
                have h9 := (Kd.C_below HC.out (by rw [HSZ.out]; exact HBz.out)).2.2 (by omega)
                obtain ⟨ad, e1, h10⟩ := h9
                obtain ⟨cs, _, hk, h11⟩ := h10 j o[j] (List.getElem?_eq_getElem hlj)
                have hk' := kP_K hk
                subst hk'
                refine ⟨ad, o[j].1, o[j].2, e1, Lib.hid (List.getElem?_eq_getElem hlj), h11 0 _ rfl, ?_⟩
                have := h11 1 _ rfl
                rw [← add_field _ _ 1 (by omega)]
                exact this
              go_upto_region 30 with fail
              have hgz : wz.grownBy (wz.alloc (Obj.cells #[Value.int IntKind.i64 a, Value.int IntKind.i64 b] 86)) none := World.grownBy_alloc _ _ _
              have hy0 : (wz.alloc (Obj.cells #[Value.int IntKind.i64 a, Value.int IntKind.i64 b] 86)).cell? ⟨wz.heap.size, 0, none⟩ = some (.int .i64 a) := by simp [go_sem]
              have hy1 : (wz.alloc (Obj.cells #[Value.int IntKind.i64 a, Value.int IntKind.i64 b] 86)).cell? ⟨wz.heap.size, 1, none⟩ = some (.int .i64 b) := by simp [go_sem]
              have hRa : Kd.R kP 24 (wz.alloc (Obj.cells #[Value.int IntKind.i64 a, Value.int IntKind.i64 b] 86)) B (fun _ => True) u16 (o.take j) := Kd.R_grown HQ.out hgz (fun _ _ => by simp)
              have hBa : Below B wS (wz.alloc (Obj.cells #[Value.int IntKind.i64 a, Value.int IntKind.i64 b] 86)) := HBz.out.alloc hszz _
              obtain ⟨bz, hbz⟩ : ∃ bz, wz.heap.size = bz := ⟨_, rfl⟩
              have hsza : (wz.alloc (Obj.cells #[Value.int IntKind.i64 a, Value.int IntKind.i64 b] 86)).heap.size = bz + 1 := by simp [hbz]
              rw [hbz] at hy0 hy1 ⊢
              generalize (wz.alloc (Obj.cells #[Value.int IntKind.i64 a, Value.int IntKind.i64 b] 86)) = wa at *
              have HRA := Lib.hid hRa
              have HBA := Lib.hid hBa
              have hszB : B ≤ wa.heap.size := by omega
              clear hRa hBa hgz c0 c1 hsza hbz HQ HBz
              go_wp2_with (first | (at_builtin; refine Kd.R_append kP (w0 := wa) B rfl (.tmp 102) (.tmp 108) 63 24 (.agg #[.int .i64 0, .int .i64 0]) 16 rfl Try.underlying63 PA.info24 rfl (by decide) (by omega) _ (o.take j) (a, b) [.int .i64 a, .int .i64 b] (fun _ => True) (fun _ => False) rfl rfl ?aP (fun _ hk => hk.elim) (fun _ _ => trivial) ?aO ?aB ?aS ?aL ?_))
              case aP => exact kP_M _ _ _ _ _
              case aO => exact HRA.out
              case aB => exact Below.refl _ _
              case aS => exact hszB
              case aL => rw [List.length_take]; omega
              intro v1 w6 hR6 hB6 hG6 _
              have HR6 : Hid (Kd.R kP 24 w6 B (fun _ => True) v1 (o.take (j + 1))) := by
                refine Lib.hid ?_
                rw [List.take_add_one, HO.out]
                exact hR6
              have HB6 := Lib.hid (HBA.out.trans hB6)
              have hs6 : B ≤ w6.heap.size := by have := hG6.size; omega
              clear hR6 hB6 hG6
              go_wp2_with fail
              exact ⟨⟨j + 1, by go_num, by omega, hs6, HR6, HB6⟩, by simp [intOf]; omega⟩
            · obtain rfl : j = o.length := by omega
              go_wp2_with fail
              show Post (.returned (.tuple #[u16, .int .i64 0])) wz
              have hq := HQ.out
              rw [List.take_length] at hq
              exact HP2.out u16 wz o (fun i hi => HNCX.out i hi) HPW.out HMEM.out (Kd.R_lower hq hMB) (HBS.out.trans (HBz.out.mono hMB))
end Go.Proofs.Ytpjobcnfjpbaeaa.T

set_option linter.unusedVariables false
set_option linter.unusedSimpArgs false
namespace Go.Proofs.Ytpjobcnfjpbaeaa.T
open Go.RowKit Go.Proofs.YtpjobcnfjpbaeaaW.PrintWords Go.Proofs.YtpjobcnfjpbaeaaW.PrintLast Go.Proofs.YtpjobcnfjpbaeaaW.PrintMore
open Go.Proofs.Ytpjobcnfjpbaeaa.PA Go.Proofs.Ytpjobcnfjpbaeaa.A
def mk24 (x : Int × Int) : S24 := ⟨x.1, x.2⟩
theorem R24 {W : World} {base : Nat} {ok : Nat → Prop} {v : Value} {o : List (Int × Int)} (h : Kd.R kP 24 W base ok v o) : Kd.R k24 24 W base ok v (o.map mk24) := by
  obtain ⟨h0, inner, ho, hl, hr⟩ := h
  refine ⟨h0, inner, by rw [List.length_map]; exact ho, by rw [List.length_map]; exact hl, fun j p hj => ?_⟩
  rw [List.getElem?_map] at hj
  cases hx : o[j]? with
  | none => rw [hx] at hj; cases hj
  | some x =>
    rw [hx] at hj
    injection hj with hj
    subst hj
    exact hr j x hx
def wfs (rs : List Int) : Bool := rs.all (fun r => (Lit.int .i64 r).wf)
def clashB (l : List S47) (rs : List Int) : Bool := (List.range l.length).any fun i => (List.range i).any fun j => decide (rmL rs j = rmL rs i) && decide (frmL l j < toL l i) && decide (frmL l i < toL l j)
theorem clashB_iff {l : List S47} {rs : List Int} : clashB l rs = true ↔ ∃ i, i < l.length ∧ Clash (frmL l) (toL l) (rmL rs) i := by
  unfold clashB Clash
  simp only [List.any_eq_true, List.mem_range, Bool.and_eq_true, decide_eq_true_eq, and_assoc]
def foundL (l : List S47) (rs : List Int) (t : Nat) : List Int := foundR (fun i k => decide (toL l i = (t : Int)) && decide (frmL l k = (t : Int)) && decide (rmL rs i = rmL rs k)) (rmL rs) l.length l.length
def refTL (l : List S47) (rs : List Int) : List (Int × Int) := refT (foundL l rs) 61
theorem getD_all {l : List S47} {P : S47 → Prop} (h : ∀ x ∈ l, P x) {i : Nat} (hi : i < l.length) : P (l.getD i z47) := by
  rw [List.getD_eq_getElem?_getD, List.getElem?_eq_getElem hi]
  exact h _ (List.getElem_mem hi)
end Go.Proofs.Ytpjobcnfjpbaeaa.T
namespace Go.Proofs.Ytpjobcnfjpbaeaa.PA
open Go.RowKit Go.Proofs.YtpjobcnfjpbaeaaW.PrintWords Go.Proofs.YtpjobcnfjpbaeaaW.PrintLast Go.Proofs.YtpjobcnfjpbaeaaW.PrintMore
open Go.Proofs.Ytpjobcnfjpbaeaa.A Go.Proofs.Ytpjobcnfjpbaeaa.T
def rooms_Turnover.f (l0 : List S47) (l1 : List Int) : Option ((List S24) × Int) :=
  if wfs l1 then (if turnB l0 l1 && !clashB l0 l1 then some ((refTL l0 l1).map mk24, 0) else some ([], 2)) else none
theorem rooms_Turnover.calls (A0 : Option Addr) (c0 : Nat) (l0 : List (S47)) (A1 : Option Addr) (c1 : Nat) (l1 : List Int) (r1 : List (S24)) (r2 : Int) (w : World) (hr0 : Kd.C k47 w A0 l0.length l0) (_hc0 : l0.length ≤ c0) (hr1 : Kd.C (Kd.int .i64) w A1 l1.length l1) (_hc1 : l1.length ≤ c1) (h : rooms_Turnover.f l0 l1 = some (r1, r2)) :
    Calls Try.prog 39 #[.slice A0 l0.length c0, .slice A1 l1.length c1] w fun e w' => ∃ v0_ : Value, e = .returned (.tuple #[v0_, .int .i64 r2]) ∧ Kd.R k24 24 w' w.heap.size (fun _ => True) v0_ r1 ∧ Below w.heap.size w w' := by
  unfold rooms_Turnover.f at h
  cases hw : wfs l1 with
  | false => rw [hw] at h; cases h
  | true =>
    rw [hw, if_pos rfl] at h
    cases hb : turnB l0 l1 with
    | false =>
      rw [hb] at h
      simp only [Bool.false_and, Bool.false_eq_true, if_false, Option.some.injEq, Prod.mk.injEq] at h
      obtain ⟨rfl, rfl⟩ := h
      exact (Turn_no A0 c0 l0 A1 c1 l1 w hr0 hr1 hb).mono fun e w' ⟨he, hb⟩ => ⟨_, he, Kd.R_nil _ _ _ _ _, hb⟩
    | true =>
      have hb2 := hb
      simp only [turnB, Bool.and_eq_true, decide_eq_true_eq, Bool.not_eq_true'] at hb2
      obtain ⟨ha, hlen, hneg⟩ := hb2
      obtain ⟨h40, hx⟩ := areB_iff.1 ha
      have hwf : ∀ r ∈ l1, (Lit.int .i64 r).wf = true := by
        unfold wfs at hw
        rwa [List.all_eq_true] at hw
      have hr1' := hr1
      rw [hlen] at hr1' ⊢
      refine Turn_c A0 c0 l0 A1 c1 l1 w hr0 hr1' hlen ha hneg h40 (fun x hx' => ⟨(hx x hx').1, (hx x hx').2.1, (hx x hx').2.2.1⟩) hwf _ ?_ ?_
      · intro w' i hi hc hB
        have hcl : clashB l0 l1 = true := clashB_iff.2 ⟨i, hi, hc⟩
        rw [hb, hcl] at h
        simp only [Bool.not_true, Bool.and_false, Bool.false_eq_true, if_false, Option.some.injEq, Prod.mk.injEq] at h
        obtain ⟨rfl, rfl⟩ := h
        exact ⟨_, rfl, Kd.R_nil _ _ _ _ _, hB⟩
      · intro v w' o hn hs hm hR hB
        have hcl : clashB l0 l1 = false := by
          cases hc : clashB l0 l1 with
          | false => rfl
          | true =>
            obtain ⟨i, hi, hc⟩ := clashB_iff.1 hc
            exact absurd hc (hn i hi)
        rw [hb, hcl] at h
        simp only [Bool.not_false, Bool.and_true, if_true, Option.some.injEq, Prod.mk.injEq] at h
        obtain ⟨rfl, rfl⟩ := h
        have ho : o = refTL l0 l1 := @turns_same l0.length 61 (frmL l0) (toL l0) (rmL l1) o (fun i hi => by
          have := getD_all hx hi
          unfold toL
          omega) hs hm
        rw [← ho]
        exact ⟨v, rfl, R24 hR, hB⟩
end Go.Proofs.Ytpjobcnfjpbaeaa.PA

set_option linter.unusedVariables false
set_option linter.unusedSimpArgs false
namespace Go.Proofs.Ytpjobcnfjpbaeaa.T
open Go.RowKit Go.Proofs.YtpjobcnfjpbaeaaW.PrintWords Go.Proofs.YtpjobcnfjpbaeaaW.PrintLast Go.Proofs.YtpjobcnfjpbaeaaW.PrintMore
open Go.Proofs.Ytpjobcnfjpbaeaa.PA Go.Proofs.Ytpjobcnfjpbaeaa.M Go.Proofs.Ytpjobcnfjpbaeaa.A
theorem rdI (l : List Int) (i : Nat) : rd l (i : Int) = l.getD i 0 := by unfold rd; rw [Int.toNat_natCast]
theorem wrapN (i : Nat) (h : i < 1000000) : wrap64 ((i : Int) + 1) = ((i + 1 : Nat) : Int) := by unfold wrap64; omega
def clB (b : List S47) (a : List Int) (i j : Nat) : Bool := decide (rmL a j = rmL a i) && decide (frmL b j < toL b i) && decide (frmL b i < toL b j)
def asgB (b : List S47) (a : List Int) : Nat → Nat → Bool
  | 0, _ => true
  | d + 1, i => !decide (rmL a i < 0) && !(List.range i).any (clB b a i) && asgB b a d (i + 1)
theorem any_split (p : Nat → Bool) (i j : Nat) (h : j < i) : ((List.range' j (i - j)).any p) = (p j || (List.range' (j + 1) (i - (j + 1))).any p) := by
  obtain ⟨d, hd⟩ : ∃ d, i - j = d + 1 := ⟨i - j - 1, by omega⟩
  rw [hd, show i - (j + 1) = d by omega]
  rfl
theorem asg_l1 {b : List S47} {a : List Int} (hlen : a.length = b.length) (hb : b.length ≤ 1000) {i : Nat} (hi : i < b.length) {r : Bool}
    (h : Ev (fun k => turndownref08_Assigned.l0 k b a ((i + 1 : Nat) : Int)) r) : ∀ d j, j + d = i → Ev (fun k => turndownref08_Assigned.l1 k b a (i : Int) (j : Int)) (!(List.range' j (i - j)).any (clB b a i) && r) := by
  intro d
  induction d with
  | zero =>
    intro j hj
    obtain rfl : j = i := by omega
    refine Ev.step (f := fun k => turndownref08_Assigned.l0 k b a ((j + 1 : Nat) : Int)) (fun k => ?_) ?_
    · rw [turndownref08_Assigned.l1, if_neg (by omega), wrapN j (by omega)]
    · rw [Nat.sub_self]
      simpa using h
  | succ d ih =>
    intro j hj
    have h2 := ih (j + 1) (by omega)
    rw [any_split _ _ _ (by omega)]
    have e0 : ((j : Nat) : Int) < (i : Int) := by omega
    have e1 : ((j : Nat) : Int) < (a.length : Int) := by omega
    have e2 : ((i : Nat) : Int) < (a.length : Int) := by omega
    have e3 : ((j : Nat) : Int) < (b.length : Int) := by omega
    have e4 : ((i : Nat) : Int) < (b.length : Int) := by omega
    have e5 : (0 : Int) ≤ (j : Int) := by omega
    have e6 : (0 : Int) ≤ (i : Int) := by omega
    have en := wrapN j (by omega)
    by_cases c1 : a.getD j 0 = a.getD i 0
    · have hm : turndownref08_meets.f ((b.getD j z47).f0) ((b.getD j z47).f1) ((b.getD j z47).f2) ((b.getD i z47).f0) ((b.getD i z47).f1) ((b.getD i z47).f2) = some (decide (frmL b j < toL b i) && decide (frmL b i < toL b j)) := by
        unfold turndownref08_meets.f frmL toL
        by_cases c : (b.getD j z47).f0 < (b.getD i z47).f1
        · rw [if_pos c, decide_eq_true c, Bool.true_and]
        · rw [if_neg c, decide_eq_false c, Bool.false_and]
      have hc : clB b a i j = (decide (frmL b j < toL b i) && decide (frmL b i < toL b j)) := by
        unfold clB rmL
        rw [decide_eq_true c1, Bool.true_and]
      cases h3 : (decide (frmL b j < toL b i) && decide (frmL b i < toL b j)) with
      | true =>
        rw [hc, h3]
        refine Ev.step (f := fun _ => some false) (fun k => ?_) (by simpa using Ev.now false)
        rw [turndownref08_Assigned.l1, if_pos e0, if_pos e5, if_pos e1, if_pos e6, if_pos e2, rdI, rdI, if_pos c1, if_pos e3, if_pos e4, rdT47, rdT47, hm, h3]
        rfl
      | false =>
        rw [hc, h3, Bool.false_or]
        refine Ev.step (f := fun k => turndownref08_Assigned.l1 k b a (i : Int) ((j + 1 : Nat) : Int)) (fun k => ?_) h2
        rw [turndownref08_Assigned.l1, if_pos e0, if_pos e5, if_pos e1, if_pos e6, if_pos e2, rdI, rdI, if_pos c1, if_pos e3, if_pos e4, rdT47, rdT47, hm, h3, en]
        rfl
    · have hc : clB b a i j = false := by
        unfold clB rmL
        rw [decide_eq_false c1, Bool.false_and, Bool.false_and]
      rw [hc, Bool.false_or]
      refine Ev.step (f := fun k => turndownref08_Assigned.l1 k b a (i : Int) ((j + 1 : Nat) : Int)) (fun k => ?_) h2
      rw [turndownref08_Assigned.l1, if_pos e0, if_pos e5, if_pos e1, if_pos e6, if_pos e2, rdI, rdI, if_neg c1, en]
theorem asg_l0 {b : List S47} {a : List Int} (hlen : a.length = b.length) (hb : b.length ≤ 1000) : ∀ d i, i + d = b.length → Ev (fun k => turndownref08_Assigned.l0 k b a (i : Int)) (asgB b a d i) := by
  intro d
  induction d with
  | zero =>
    intro i hi
    refine Ev.step (f := fun _ => some true) (fun k => ?_) (Ev.now _)
    rw [turndownref08_Assigned.l0, if_neg (by omega)]
  | succ d ih =>
    intro i hi
    by_cases c : a.getD i 0 < 0
    · have e : asgB b a (d + 1) i = false := by
        unfold asgB rmL
        rw [decide_eq_true c]
        rfl
      rw [e]
      refine Ev.step (f := fun _ => some false) (fun k => ?_) (Ev.now _)
      rw [turndownref08_Assigned.l0, if_pos (by omega), if_pos (by omega), if_pos (by omega), rdI, if_pos c]
    · have h1 := asg_l1 hlen hb (show i < b.length by omega) (ih (i + 1) (by omega)) i 0 (by omega)
      have e : asgB b a (d + 1) i = (!(List.range' 0 (i - 0)).any (clB b a i) && asgB b a d (i + 1)) := by
        conv => lhs; unfold asgB rmL
        rw [decide_eq_false c, List.range_eq_range', Nat.sub_zero]
        rfl
      rw [e]
      refine Ev.step (f := fun k => turndownref08_Assigned.l1 k b a (i : Int) ((0 : Nat) : Int)) (fun k => ?_) h1
      rw [turndownref08_Assigned.l0, if_pos (by omega), if_pos (by omega), if_pos (by omega), rdI, if_neg c]
      rfl
theorem asgB_iff {b : List S47} {a : List Int} : ∀ d i, asgB b a d i = true ↔ ∀ j, i ≤ j → j < i + d → 0 ≤ rmL a j ∧ ¬ Clash (frmL b) (toL b) (rmL a) j
  | 0, i => by simp [asgB]; intro j h1 h2; omega
  | d + 1, i => by
    unfold asgB
    rw [Bool.and_eq_true, asgB_iff d (i + 1)]
    have hc : ((List.range i).any (clB b a i) = true) ↔ Clash (frmL b) (toL b) (rmL a) i := by
      unfold Clash clB
      simp only [List.any_eq_true, List.mem_range, Bool.and_eq_true, decide_eq_true_eq, and_assoc]
    simp only [Bool.and_eq_true, Bool.not_eq_true', decide_eq_false_iff_not]
    constructor
    · rintro ⟨⟨h1, h2⟩, h3⟩ j hj1 hj2
      by_cases e : j = i
      · subst e
        refine ⟨by omega, fun h => ?_⟩
        rw [hc.2 h] at h2
        cases h2
      · exact h3 j (by omega) (by omega)
    · intro h
      have h1 := h i (Nat.le_refl _) (by omega)
      refine ⟨⟨by omega, ?_⟩, fun j hj1 hj2 => h j (by omega) (by omega)⟩
      cases h9 : (List.range i).any (clB b a i) with
      | false => rfl
      | true => exact absurd (hc.1 h9) h1.2
theorem asg_ev {b : List S47} {a : List Int} (hb : b.length ≤ 1000) : Ev (fun k => turndownref08_Assigned.f k b a) (decide (a.length = b.length) && !a.any neg1 && !clashB b a) := by
  by_cases hlen : a.length = b.length
  · have h := asg_l0 hlen hb b.length 0 (by omega)
    have e : asgB b a b.length 0 = (decide (a.length = b.length) && !a.any neg1 && !clashB b a) := by
      refine bool_ext ?_
      rw [asgB_iff]
      simp only [Bool.and_eq_true, Bool.not_eq_true', decide_eq_true_eq]
      constructor
      · intro h
        refine ⟨⟨hlen, ?_⟩, ?_⟩
        · cases h9 : a.any neg1 with
          | false => rfl
          | true =>
            rw [List.any_eq_true] at h9
            obtain ⟨x, hx, hn⟩ := h9
            obtain ⟨i, hi, rfl⟩ := List.getElem_of_mem hx
            have h2 := (h i (Nat.zero_le _) (by omega)).1
            unfold rmL at h2
            rw [List.getD_eq_getElem?_getD, List.getElem?_eq_getElem hi] at h2
            simp only [neg1, decide_eq_true_eq] at hn
            simp only [Option.getD_some] at h2
            omega
        · cases h9 : clashB b a with
          | false => rfl
          | true =>
            obtain ⟨i, hi, hc⟩ := clashB_iff.1 h9
            exact absurd hc (h i (Nat.zero_le _) (by omega)).2
      · rintro ⟨⟨_, h1⟩, h2⟩ j _ hj
        refine ⟨?_, fun hc => ?_⟩
        · have hj' : j < a.length := by omega
          unfold rmL
          rw [List.getD_eq_getElem?_getD, List.getElem?_eq_getElem hj', Option.getD_some]
          by_cases c : a[j] < 0
          · have : a.any neg1 = true := List.any_eq_true.2 ⟨a[j], List.getElem_mem hj', by simp [neg1, c]⟩
            rw [this] at h1
            cases h1
          · omega
        · rw [clashB_iff.2 ⟨j, by omega, hc⟩] at h2
          cases h2
    rw [← e]
    refine Ev.congr (fun k => ?_) h
    unfold turndownref08_Assigned.f
    rw [if_pos (by omega)]
    rfl
  · rw [decide_eq_false hlen, Bool.false_and, Bool.false_and]
    refine Ev.congr (f := fun _ => some false) (fun k => ?_) (Ev.now _)
    unfold turndownref08_Assigned.f
    rw [if_neg (by omega)]
end Go.Proofs.Ytpjobcnfjpbaeaa.T

set_option linter.unusedVariables false
set_option linter.unusedSimpArgs false
namespace Go.Proofs.Ytpjobcnfjpbaeaa.T
open Go.RowKit Go.Proofs.YtpjobcnfjpbaeaaW.PrintWords Go.Proofs.YtpjobcnfjpbaeaaW.PrintLast Go.Proofs.YtpjobcnfjpbaeaaW.PrintMore
open Go.Proofs.Ytpjobcnfjpbaeaa.PA Go.Proofs.Ytpjobcnfjpbaeaa.M Go.Proofs.Ytpjobcnfjpbaeaa.A
theorem insR_len (x : Int) : ∀ l : List Int, (insR x l).length ≤ l.length + 1
  | [] => by simp [insR]
  | y :: l => by
    have := insR_len x l
    unfold insR
    split
    · simp; omega
    · split
      · simp
      · simp
theorem insR_split {x : Int} : ∀ {l : List Int} {i : Nat}, (∀ j, j < i → l.getD j 0 < x) → i ≤ l.length → insR x l = l.take i ++ insR x (l.drop i)
  | l, 0, _, _ => by simp
  | [], i + 1, _, h => by simp at h
  | y :: l, i + 1, h, hi => by
    have h0 : y < x := h 0 (by omega)
    have h1 := insR_split (x := x) (l := l) (i := i) (fun j hj => by simpa using h (j + 1) (by omega)) (by simpa using hi)
    conv => lhs; unfold insR
    rw [if_pos h0, h1]
    rfl
theorem ins_l0 {x : Int} {l : List Int} (hl : l.length ≤ 100000) : ∀ d i, i + d = l.length → (∀ j, j < i → l.getD j 0 < x) → Ev (fun k => turndownref08_insert.l0 k l x (i : Int)) (insR x l) := by
  intro d
  have lt0 : (l.take 0).length ≤ l.length := by simp
  induction d with
  | zero =>
    intro i hi h
    obtain rfl : i = l.length := by omega
    have e : insR x l = l ++ [x] := by
      rw [insR_split h (Nat.le_refl _)]
      simp [insR]
    refine Ev.step (f := fun _ => some (insR x l)) (fun k => ?_) (Ev.now _)
    rw [turndownref08_insert.l0, if_neg (by omega), if_pos (by omega), if_pos (by omega), Int.toNat_natCast, List.take_length, List.drop_length]
    simp only [Option.bind_some, List.nil_append, List.length_nil]
    rw [if_pos (by omega), e]
    rw [if_pos (by omega)]
    try simp only [Option.bind_some, List.length_append, List.length_singleton, List.length_nil, List.append_nil]
    rw [if_pos (by omega)]
  | succ d ih =>
    intro i hi h
    have hil : i < l.length := by omega
    have e0 : (i : Int) < (l.length : Int) := by omega
    have e1 : (0 : Int) ≤ (i : Int) := by omega
    have eD : l.drop i = l.getD i 0 :: l.drop (i + 1) := by
      rw [List.drop_eq_getElem_cons hil, List.getD_eq_getElem?_getD, List.getElem?_eq_getElem hil]
      rfl
    by_cases c : l.getD i 0 < x
    · refine Ev.step (f := fun k => turndownref08_insert.l0 k l x ((i + 1 : Nat) : Int)) (fun k => ?_) (ih (i + 1) (by omega) (fun j hj => ?_))
      · rw [turndownref08_insert.l0, if_pos e0, if_pos e1, rdI, if_pos c, wrapN i (by omega)]
      · by_cases e : j = i
        · rw [e]; exact c
        · exact h j (by omega)
    · by_cases c2 : l.getD i 0 = x
      · have e : insR x l = l := by
          rw [insR_split h (by omega), eD]
          unfold insR
          rw [if_neg c, if_pos c2, ← eD, List.take_append_drop]
        rw [e]
        refine Ev.step (f := fun _ => some l) (fun k => ?_) (Ev.now _)
        rw [turndownref08_insert.l0, if_pos e0, if_pos e1, rdI, if_neg c, if_pos c2]
      · have e : insR x l = (l.take i ++ [x]) ++ l.drop i := by
          rw [insR_split h (by omega), eD]
          unfold insR
          rw [if_neg c, if_neg c2, List.append_assoc]
          rfl
        have ht : (l.take i).length ≤ l.length := by rw [List.length_take]; omega
        have hd : (l.drop i).length ≤ l.length := by rw [List.length_drop]; omega
        rw [e]
        refine Ev.step (f := fun _ => some ((l.take i ++ [x]) ++ l.drop i)) (fun k => ?_) (Ev.now _)
        rw [turndownref08_insert.l0, if_pos e0, if_pos e1, rdI, if_neg c, if_neg c2, if_pos (by omega), Int.toNat_natCast]
        generalize l.take i = u at *
        generalize l.drop i = v at *
        simp only [Option.bind_some, List.nil_append, List.length_nil]
        rw [if_pos (by omega)]
        rw [if_pos (by omega)]
        try simp only [Option.bind_some, List.length_append, List.length_singleton]
        rw [if_pos (by omega)]
theorem ins_ev {x : Int} {l : List Int} (hl : l.length ≤ 100000) : Ev (fun k => turndownref08_insert.f k l x) (insR x l) :=
  Ev.congr (fun _ => rfl) (ins_l0 hl l.length 0 (by omega) (fun j hj => absurd hj (Nat.not_lt_zero _)))
theorem inR_len (c : Nat → Nat → Bool) (rm : Nat → Int) (i : Nat) (l : List Int) : ∀ k, (inR c rm i k l).length ≤ l.length + k
  | 0 => by simp [inR]
  | k + 1 => by
    have := inR_len c rm i l k
    unfold inR
    split
    · have := insR_len (rm i) (inR c rm i k l); omega
    · omega
theorem foundR_len (c : Nat → Nat → Bool) (rm : Nat → Int) (n : Nat) : ∀ i, (foundR c rm n i).length ≤ i * n
  | 0 => by simp [foundR]
  | i + 1 => by
    have := foundR_len c rm n i
    have := inR_len c rm i (foundR c rm n i) n
    unfold foundR
    rw [Nat.add_mul]
    omega
def condL (l : List S47) (rs : List Int) (t i k : Nat) : Bool := decide (toL l i = (t : Int)) && decide (frmL l k = (t : Int)) && decide (rmL rs i = rmL rs k)
theorem prod_le {n m : Nat} (h1 : n ≤ 40) (h2 : m ≤ 40) : n * m ≤ 1600 := by
  have := Nat.mul_le_mul h1 h2
  omega
theorem turn_l2 {l : List S47} {rs : List Int} (hlen : rs.length = l.length) (hl : l.length ≤ 40) {out : List S24} {t i : Nat} (hi : i < l.length) {F : List Int} (hF : F.length ≤ 1600) {r : List S24}
    (h : Ev (fun k => turndownref08_Turnover.l1 k l rs out (t : Int) (inR (condL l rs t) (rmL rs) i l.length F) ((i + 1 : Nat) : Int)) r) :
    ∀ d j, j + d = l.length → Ev (fun k => turndownref08_Turnover.l2 k l rs out (t : Int) (inR (condL l rs t) (rmL rs) i j F) (i : Int) (j : Int)) r := by
  intro d
  induction d with
  | zero =>
    intro j hj
    obtain rfl : j = l.length := by omega
    refine Ev.step (fun k => ?_) h
    rw [turndownref08_Turnover.l2, if_neg (by omega), wrapN i (by omega)]
  | succ d ih =>
    intro j hj
    have h2 := ih (j + 1) (by omega)
    have e0 : (j : Int) < (l.length : Int) := by omega
    have e1 : (i : Int) < (l.length : Int) := by omega
    have e2 : (j : Int) < (rs.length : Int) := by omega
    have e3 : (i : Int) < (rs.length : Int) := by omega
    have e4 : (0 : Int) ≤ (i : Int) := by omega
    have e5 : (0 : Int) ≤ (j : Int) := by omega
    have en := wrapN j (by omega)
    have hlen2 := inR_len (condL l rs t) (rmL rs) i F j
    by_cases c1 : (l.getD i z47).f1 = (t : Int)
    · by_cases c2 : (l.getD j z47).f0 = (t : Int)
      · by_cases c3 : rs.getD i 0 = rs.getD j 0
        · have hc : condL l rs t i j = true := by
            unfold condL toL frmL rmL
            rw [decide_eq_true c1, decide_eq_true c2, decide_eq_true c3]
            rfl
          rw [inR, if_pos hc] at h2
          have hins := ins_ev (x := rs.getD i 0) (l := inR (condL l rs t) (rmL rs) i j F) (by omega)
          refine Ev.step (f := fun k => (turndownref08_insert.f k (inR (condL l rs t) (rmL rs) i j F) (rs.getD i 0)).bind fun t534 => turndownref08_Turnover.l2 k l rs out (t : Int) t534 (i : Int) ((j + 1 : Nat) : Int)) (fun k => ?_) (hins.bind h2)
          rw [turndownref08_Turnover.l2, if_pos e0, if_pos e4, if_pos e1, rdT47, if_pos c1, if_pos e5, rdT47, if_pos c2, if_pos e3, if_pos e2, rdI, rdI, if_pos c3, en]
        · have hc : condL l rs t i j = false := by
            unfold condL rmL
            rw [decide_eq_false c3, Bool.and_false]
          rw [inR, hc, if_neg (by decide)] at h2
          refine Ev.step (fun k => ?_) h2
          rw [turndownref08_Turnover.l2, if_pos e0, if_pos e4, if_pos e1, rdT47, if_pos c1, if_pos e5, rdT47, if_pos c2, if_pos e3, if_pos e2, rdI, rdI, if_neg c3, en]
      · have hc : condL l rs t i j = false := by
          unfold condL frmL
          rw [decide_eq_false c2, Bool.and_false, Bool.false_and]
        rw [inR, hc, if_neg (by decide)] at h2
        refine Ev.step (fun k => ?_) h2
        rw [turndownref08_Turnover.l2, if_pos e0, if_pos e4, if_pos e1, rdT47, if_pos c1, if_pos e5, rdT47, if_neg c2, en]
    · have hc : condL l rs t i j = false := by
        unfold condL toL
        rw [decide_eq_false c1, Bool.false_and, Bool.false_and]
      rw [inR, hc, if_neg (by decide)] at h2
      refine Ev.step (fun k => ?_) h2
      rw [turndownref08_Turnover.l2, if_pos e0, if_pos e4, if_pos e1, rdT47, if_neg c1, en]
theorem turn_l1 {l : List S47} {rs : List Int} (hlen : rs.length = l.length) (hl : l.length ≤ 40) {out : List S24} {t : Nat} {r : List S24}
    (h : Ev (fun k => turndownref08_Turnover.l3 k l rs out (t : Int) (foundR (condL l rs t) (rmL rs) l.length l.length) 0) r) :
    ∀ d i, i + d = l.length → Ev (fun k => turndownref08_Turnover.l1 k l rs out (t : Int) (foundR (condL l rs t) (rmL rs) l.length i) (i : Int)) r := by
  intro d
  induction d with
  | zero =>
    intro i hi
    obtain rfl : i = l.length := by omega
    refine Ev.step (fun k => ?_) h
    rw [turndownref08_Turnover.l1, if_neg (by omega)]
  | succ d ih =>
    intro i hi
    have h1 := foundR_len (condL l rs t) (rmL rs) l.length i
    have h2 := prod_le (show i ≤ 40 by omega) hl
    have h3 := turn_l2 (out := out) (t := t) hlen hl (show i < l.length by omega) (F := foundR (condL l rs t) (rmL rs) l.length i) (by omega) (ih (i + 1) (by omega)) l.length 0 (by omega)
    refine Ev.step (fun k => ?_) h3
    rw [turndownref08_Turnover.l1, if_pos (by omega)]
    rfl
theorem turn_l3 {l : List S47} {rs : List Int} {t : Nat} {F : List Int} (hF : F.length ≤ 1600) {out : List S24} (ho : out.length ≤ 1600 * 100) (ht : t ≤ 60) {r : List S24}
    (h : Ev (fun k => turndownref08_Turnover.l0 k l rs (out ++ F.map (fun x => mk24 ((t : Int), x))) ((t + 1 : Nat) : Int)) r) :
    ∀ d i, i + d = F.length → Ev (fun k => turndownref08_Turnover.l3 k l rs (out ++ (F.take i).map (fun x => mk24 ((t : Int), x))) (t : Int) F (i : Int)) r := by
  intro d
  induction d with
  | zero =>
    intro i hi
    obtain rfl : i = F.length := by omega
    rw [List.take_length]
    refine Ev.step (fun k => ?_) h
    rw [turndownref08_Turnover.l3, if_neg (by omega), wrapN t (by omega)]
  | succ d ih =>
    intro i hi
    have h1 := ih (i + 1) (by omega)
    have hi' : i < F.length := by omega
    have e : out ++ (F.take (i + 1)).map (fun x => mk24 ((t : Int), x)) = (out ++ (F.take i).map (fun x => mk24 ((t : Int), x))) ++ [(⟨(t : Int), F.getD i 0⟩ : S24)] := by
      rw [List.take_add_one, List.getElem?_eq_getElem hi', List.map_append, List.append_assoc, List.getD_eq_getElem?_getD, List.getElem?_eq_getElem hi']
      rfl
    rw [e] at h1
    have hl : (out ++ (F.take i).map (fun x => mk24 ((t : Int), x))).length < 8796093022208 := by
      rw [List.length_append, List.length_map, List.length_take]; omega
    refine Ev.step (fun k => ?_) h1
    rw [turndownref08_Turnover.l3, if_pos (by omega), if_pos (by omega), if_pos hl, rdI, wrapN i (by omega)]
theorem refT_len (found : Nat → List Int) (m : Nat) (h : ∀ t, (found t).length ≤ m) : ∀ N, (refT found N).length ≤ m * N
  | 0 => by simp [refT]
  | N + 1 => by
    have h1 := refT_len found m h N
    have h2 := h N
    unfold refT
    rw [List.length_append, List.length_map, Nat.mul_add]
    omega
theorem turn_ev {l : List S47} {rs : List Int} (hlen : rs.length = l.length) (hl : l.length ≤ 40) : Ev (fun k => turndownref08_Turnover.f k l rs) ((refTL l rs).map mk24) := by
  have hF : ∀ t, (foundL l rs t).length ≤ 1600 := fun t => by
    have h1 := foundR_len (condL l rs t) (rmL rs) l.length l.length
    have h2 := prod_le hl hl
    exact Nat.le_trans h1 h2
  have key : ∀ d t, t + d = 61 → Ev (fun k => turndownref08_Turnover.l0 k l rs ((refT (foundL l rs) t).map mk24) (t : Int)) ((refTL l rs).map mk24) := by
    intro d
    induction d with
    | zero =>
      intro t ht
      obtain rfl : t = 61 := by omega
      refine Ev.step (f := fun _ => some ((refTL l rs).map mk24)) (fun k => ?_) (Ev.now _)
      rw [turndownref08_Turnover.l0, if_neg (by omega)]
      rfl
    | succ d ih =>
      intro t ht
      have h1 := ih (t + 1) (by omega)
      have h2 := refT_len (foundL l rs) 1600 hF t
      have h3 : ((refT (foundL l rs) t).map mk24).length ≤ 1600 * 100 := by rw [List.length_map]; omega
      have e : (refT (foundL l rs) (t + 1)).map mk24 = (refT (foundL l rs) t).map mk24 ++ (foundL l rs t).map (fun x => mk24 ((t : Int), x)) := by
        conv => lhs; unfold refT
        rw [List.map_append, List.map_map]
        rfl
      rw [e] at h1
      have h4 := turn_l3 (hF t) h3 (show t ≤ 60 by omega) h1 (foundL l rs t).length 0 (by omega)
      rw [List.take_zero, List.map_nil, List.append_nil] at h4
      have h5 := turn_l1 hlen hl (t := t) (r := (refTL l rs).map mk24) h4 l.length 0 (by omega)
      refine Ev.step (fun k => ?_) h5
      rw [turndownref08_Turnover.l0, if_pos (by omega)]
      rfl
  exact Ev.congr (fun _ => rfl) (key 61 0 (by omega))
end Go.Proofs.Ytpjobcnfjpbaeaa.T

namespace Go.Proofs.Ytpjobcnfjpbaeaa.PA
open Go.RowKit Go.Proofs.YtpjobcnfjpbaeaaW.PrintWords Go.Proofs.YtpjobcnfjpbaeaaW.PrintLast Go.Proofs.YtpjobcnfjpbaeaaW.PrintMore
attribute [local go_sem] max2_int min2_int max_two min_two max_three min_three max_four min_four
set_option linter.unusedVariables false
set_option linter.unusedSimpArgs false
def turndownlaw08_bookings.f (l0 : List (S47)) : Option ((List (S47))) := if 0 ≤ (mn (l0.length : Int) 41) then (if (mn (l0.length : Int) 41) ≤ (l0.length : Int) then ((some (l0.take ((mn (l0.length : Int) 41) : Int).toNat : List (S47))).bind fun y101 => (if ([] : List (S47)).length + y101.length < 5864062014805 then (some (([] : List (S47)) ++ y101)) else (none))) else (none)) else (none)
set_option maxHeartbeats 8000000 in
set_option maxRecDepth 100000 in
theorem turndownlaw08_bookings.calls (A0 : Option Addr) (c0 : Nat) (l0 : List (S47)) (r : List (S47)) (w : World) (hr0 : Kd.C k47 w A0 l0.length l0) (hc0 : l0.length ≤ c0) (h : turndownlaw08_bookings.f l0 = some r) :
    Calls Try.prog 14 #[.slice A0 l0.length c0] w fun e w' => ∃ v0_ : Value, e = .returned (v0_) ∧ Kd.R k47 47 w' w.heap.size (fun _ => True) v0_ r ∧ Below w.heap.size w w' := by
  have HR0 := Aside0.mk hr0
  have HC0 := Aside0.mk hc0
  clear hr0 hc0
  have HB := Aside0.mk (Below.refl w.heap.size w)
  have H : (if 0 ≤ (mn (l0.length : Int) 41) then (if (mn (l0.length : Int) 41) ≤ (l0.length : Int) then ((some (l0.take ((mn (l0.length : Int) 41) : Int).toNat : List (S47))).bind fun y101 => (if ([] : List (S47)).length + y101.length < 5864062014805 then (some (([] : List (S47)) ++ y101)) else (none))) else (none)) else (none)) = some r := h
  clear h
  obtain ⟨ji2, hji2⟩ : ∃ j_ : Int, (mn (l0.length : Int) 41) = j_ := ⟨_, rfl⟩
  replace H : (if 0 ≤ (ji2) then (if (ji2) ≤ (l0.length : Int) then ((some (l0.take ((ji2) : Int).toNat : List (S47))).bind fun y101 => (if ([] : List (S47)).length + y101.length < 5864062014805 then (some (([] : List (S47)) ++ y101)) else (none))) else (none)) else (none)) = some r := by first | (rw [hji2] at H; exact H) | (simp only [hji2] at H ⊢; exact H)
  (try (have hji2h : ji2 ≤ 41 := by (rw [← hji2]; unfold mn; (repeat' split) <;> omega)))
  (try (have hji2g : ji2 ≤ 64 := by omega))
  (try (have hji2l : 0 ≤ ji2 := by (rw [← hji2]; unfold mn; (repeat' split) <;> omega)))
  (try (have hji2m : 0 ≤ ji2 := by omega))
  have hji2_ : (if 41 < (l0.length : Int) then 41 else (l0.length : Int)) = ji2 := hji2
  by_cases c3 : 0 ≤ (ji2)
  · rw [if_pos c3] at H
    have c3b0 := eq_true c3
    have c3b1 : decide (0 ≤ (ji2)) = true := decide_eq_true c3
    clear c3
    by_cases c4 : (ji2) ≤ (l0.length : Int)
    · rw [if_pos c4] at H
      have c4b0 := eq_true c4
      have c4b1 : decide ((ji2) ≤ (l0.length : Int)) = true := decide_eq_true c4
      clear c4
      obtain ⟨y101, hy101⟩ : ∃ y_ : List (S47), y_ = (l0.take ((ji2) : Int).toNat) := ⟨_, rfl⟩
      replace H : (if ([] : List (S47)).length + y101.length < 5864062014805 then (some (([] : List (S47)) ++ y101)) else (none)) = some r := by first | (rw [hy101]; with_reducible exact H) | (have H2_ := (Option.bind_some _ _).symm.trans H; rw [hy101]; with_reducible exact H2_) | (have H2_ := (Option.bind_some _ _).symm.trans H; with_reducible exact H2_) | with_reducible exact H | (rw [hy101]; exact H) | exact H
      have Ny101 := Aside0.mk hy101
      clear hy101
      by_cases c5 : ([] : List (S47)).length + y101.length < 5864062014805
      · rw [if_pos c5] at H
        have LMc5 := Aside0.mk c5
        clear c5
        obtain ⟨y105, hy105⟩ : ∃ y_ : List (S47), y_ = (([] : List (S47)) ++ y101) := ⟨_, rfl⟩
        replace H : (some y105) = some r := by first | (rw [hy105]; with_reducible exact H) | (have H2_ := (Option.bind_some _ _).symm.trans H; rw [hy105]; with_reducible exact H2_) | (have H2_ := (Option.bind_some _ _).symm.trans H; with_reducible exact H2_) | with_reducible exact H | (rw [hy105]; exact H) | exact H
        have Ny105 := Aside0.mk hy105
        clear hy105
        obtain rfl := Option.some.inj H
        have q6 : ((ji2) : Int) ≤ ((l0.length : Int) : Int) := of_decide_eq_true (by first | (with_reducible assumption) | assumption)
        obtain ⟨i06, hi06, _, hsz6, _⟩ := info_parts info47
        have hroom6 : l0.length ≤ c0 := HC0.out
        have hC6 : Kd.C k47 _ A0 l0.length l0 := HR0.out
        have hcut6 := cut_to (P := Try.prog) 22 47 .i64 Try.underlying22 hi06 A0 l0.length c0 (ji2) (of_decide_eq_true (by first | (with_reducible assumption) | assumption)) q6 hroom6
        have hr6 := Kd.C_take (m := ((ji2) : Int).toNat) hC6 (by omega)
        have hy6 : y101.length = ((ji2) : Int).toNat := (by rw [Ny101.out, List.length_take]; omega)
        rw [← Ny101.out] at hr6
        rw [← hy6] at hcut6
        have HR104 := Aside0.mk hr6
        have HC104 := Aside0.mk (show y101.length ≤ c0 from by omega)
        clear hr6 hC6 hroom6 hi06 hsz6
        have KY6 := Aside0.mk hy6
        clear hy6
        replace q6 := eq_true q6
        go_enter Try.func14, Try.ntmps14
        go_wp2_with (first | ((with_reducible refine gate_builtin (b := .append) (xs := #[.tmp 4, .tmp 9]) rfl ?_); at_builtin; refine Kd.R_append_rows k47 (w0 := w) w.heap.size rfl (.tmp 4) (.tmp 9) 22 47 (.agg #[(.int .i64 0), (.int .i64 0), (.int .i64 0)]) 24 rfl Try.underlying22 info47 rfl (by decide) (by omega) (.slice none 0 0) ([] : List (S47)) y101 _ _ _ (fun _ => True) (fun _ => False) rfl rfl ?aO ?aR (fun _ _ h => h) (fun _ h => h.elim) ?aF ?aB ?aS ?aL ?_; (case aR => repeat (first | exact HR104.out | (with_reducible refine Kd.C_alloc ?_ _) | (with_reducible refine Kd.C_drewN ?_ _) | (with_reducible refine Kd.C_drew ?_))); (case aB => exact (by repeat (first | (with_reducible first | exact HB.out | apply below_alloc | apply pw_below_drewN | apply below_drew1) | exact HB.out))); (case aF => exact (fun _ _ => trivial)); (case aO => exact ((Kd.R_nil _ _ _ _ (fun _ => True)))); (case aS => exact (below_size (by repeat (first | (with_reducible first | exact HB.out | apply below_alloc | apply pw_below_drewN | apply below_drew1) | exact HB.out)))); (case aL => have := LMc5.out; omega); intro v106 w7 ho hb hg hat; rw [← Ny105.out] at ho; have n0_ := Aside0.mk (hb); have n1_ := Aside0.mk (ho); clear HB; have HB := n0_; have HO107 := n1_; clear n0_ n1_; clear ho hb hg hat))
        go_ret
        exact ⟨_, by first | rfl | (simp [errW_none, errW_some] <;> rfl) | (simp only [← hji2]; first | rfl | (simp [errW_none, errW_some] <;> rfl)) | (simp [*, errW_none, errW_some] <;> rfl), by (with_reducible repeat (first | apply Kd.R_alloc | apply Kd.R_drewN | apply Kd.R_drew)); exact HO107.out, by repeat (first | (with_reducible first | exact HB.out | apply below_alloc | apply pw_below_drewN | apply below_drew1) | exact HB.out)⟩
      · rw [if_neg c5] at H
        exact absurd H (by simp)
    · rw [if_neg c4] at H
      exact absurd H (by simp)
  · rw [if_neg c3] at H
    exact absurd H (by simp)
end Go.Proofs.Ytpjobcnfjpbaeaa.PA

set_option linter.unusedVariables false
set_option linter.unusedSimpArgs false
namespace Go.Proofs.Ytpjobcnfjpbaeaa.A
open Go.RowKit Go.Proofs.YtpjobcnfjpbaeaaW.PrintWords Go.Proofs.YtpjobcnfjpbaeaaW.PrintLast Go.Proofs.YtpjobcnfjpbaeaaW.PrintMore
open Go.Proofs.Ytpjobcnfjpbaeaa.PA Go.Sort
abbrev encF {m : Nat} (i : Fin (m + 1)) : Value := .int .i64 ((i.val : Nat) : Int)
def cmpF (l : List S47) {m : Nat} (i j : Fin (m + 1)) : Int := cmpI (l.getD i.val ⟨0, 0, 0⟩).f0 (l.getD j.val ⟨0, 0, 0⟩).f0
structure Apart (l : List S47) (blk g : Nat) (A : Addr) (w : World) : Prop where
  gne : g ≠ blk
  Ane : A.block ≠ blk
  glt : g < w.heap.size
  Alt : A.block < w.heap.size
theorem addr_block (a : Addr) (i : Nat) : (a.add i).block = a.block := by unfold Addr.add; split <;> rfl
theorem Reads49.sort {l : List S47} {g : Nat} {A : Addr} {c : Nat} {w : World} {blk : Nat} {m : Nat} (h : Reads49 l ⟨g, 0, none⟩ A c w) (ha : Apart l blk g A w) (n : Nat) (dk : Array (Fin (m + 1))) (os : Array Obj) :
    Reads49 l ⟨g, 0, none⟩ A c (sortWorld encF w blk 0 n dk os) := by
  have step : ∀ a : Addr, a.block ≠ blk → a.block < w.heap.size → (sortWorld encF w blk 0 n dk os).cell? a = w.cell? a := fun a h1 h2 => by
    unfold sortWorld
    rw [cell?_grow _ _ _ (by rw [Go.Sort.size_putRow]; exact h2), cell?_putRow_other _ _ _ _ _ _ (Or.inl h1)]
    rfl
  refine ⟨?_, fun k x hk => ?_, fun k x hk => ?_⟩
  · rw [step _ ha.gne ha.glt]; exact h.box
  · rw [step (A.add (k * 3)) (by show (A.add (k * 3)).block ≠ blk; rw [addr_block]; exact ha.Ane) (by show (A.add (k * 3)).block < _; rw [addr_block]; exact ha.Alt)]; exact h.from_ k x hk
  · rw [step ⟨(A.add (k * 3)).block, (A.add (k * 3)).off + 1, none⟩ (by show (A.add (k * 3)).block ≠ blk; rw [addr_block]; exact ha.Ane) (by show (A.add (k * 3)).block < _; rw [addr_block]; exact ha.Alt)]; exact h.to_ k x hk
theorem cmpReads49 {l : List S47} {g : Nat} {A : Addr} {c : Nat} {w : World} {blk size : Nat} {m : Nat} (hm : l.length = m + 1) (hl : l.length ≤ 1000) (h : Reads49 l ⟨g, 0, none⟩ A c w) (ha : Apart l blk g A w) :
    CmpReads Try.prog 49 #[.pointer (some ⟨g, 0, none⟩)] (encF (m := m)) (cmpF l) blk 0 size w := by
  intro n os dk _ x y
  have hx : l[x.val]? = some (l.getD x.val ⟨0, 0, 0⟩) := by rw [List.getD_eq_getElem?_getD]; simp [hm]
  have hy : l[y.val]? = some (l.getD y.val ⟨0, 0, 0⟩) := by rw [List.getD_eq_getElem?_getD]; simp [hm]
  exact cmp49_c l g A c x.val y.val _ _ hl hx hy _ (h.sort ha n dk os)
theorem enters49 : Enters 49 := enters_mk Try.func49 (by kernel_rfl) rfl
def sorted1 (l : List S47) {m : Nat} (d : Array (Fin (m + 1))) : Array (Fin (m + 1)) := insertionSort (ltOf (cmpF l)) d 0 d.size
theorem insOuter_none {α : Type} [Inhabited α] (lt : α → α → Bool) (d : Array α) (a b i : Nat) (h : b ≤ i) : insOuter lt a b i d = d := by
  unfold insOuter
  rw [if_neg (by omega)]
theorem insInner_size {α : Type} [Inhabited α] (lt : α → α → Bool) (a : Nat) : ∀ (j : Nat) (d : Array α), (insInner lt a j d).size = d.size
  | 0, d => rfl
  | j + 1, d => by
    unfold insInner
    split
    · rw [insInner_size lt a j]; simp [swp]
    · rfl
theorem insOuter_size {α : Type} [Inhabited α] (lt : α → α → Bool) (a b : Nat) : ∀ (k i : Nat) (d : Array α), b - i = k → (insOuter lt a b i d).size = d.size
  | 0, i, d, h => by rw [insOuter_none _ _ _ _ _ (by omega)]
  | k + 1, i, d, h => by
    unfold insOuter
    rw [if_pos (by omega), insOuter_size lt a b k (i + 1) _ (by omega), insInner_size]
theorem sorted1_size (l : List S47) {m : Nat} (d : Array (Fin (m + 1))) : (sorted1 l d).size = d.size := insOuter_size _ _ _ _ _ _ rfl
set_option maxHeartbeats 1600000 in
set_option maxRecDepth 100000 in
theorem stable_small {l : List S47} {g : Nat} {A : Addr} {c : Nat} {w : World} {blk cap : Nat} {m : Nat} (hm : l.length = m + 1) (hl : l.length ≤ 1000) (h : Reads49 l ⟨g, 0, none⟩ A c w) (ha : Apart l blk g A w)
    (d : Array (Fin (m + 1))) (hH : Holds encF w blk 0 d) (hd : d.size ≤ 20) :
    Calls Try.prog 69 #[.slice (some ⟨blk, 0, none⟩) d.size cap, .int .i64 (d.size : Int), .func (.func 49) #[] #[.pointer (some ⟨g, 0, none⟩)]] w fun e w' => e = .returned (.tuple #[]) ∧
      ∃ n, w' = (putRow encF w blk 0 (sorted1 l d)).drewN n := by
  have hc := Any.insertionSortCmpFunc_one sort79 (encF (m := m)) (fun _ => rfl) (cmpF l) 49 #[.pointer (some ⟨g, 0, none⟩)] blk 0 cap 0 d.size d w enters49 (cmpReads49 hm hl h ha) hH (Nat.zero_le _) (Nat.le_refl _) (by omega)
  change Calls Try.prog 79 _ _ _ at hc
  rw [show (((0 : Nat) : Int)) = 0 from rfl] at hc
  by_cases h20 : d.size = 20
  · have hput : Holds encF ((putRow encF w blk 0 (sorted1 l d))) blk 0 (sorted1 l d) := holds_putRow encF w blk 0 d _ hH (sorted1_size l d)
    have hc2 : ∀ n, Calls Try.prog 79 #[.slice (some ⟨blk, 0, none⟩) d.size cap, .int .i64 20, .int .i64 (d.size : Int), .func (.func 49) #[] #[.pointer (some ⟨g, 0, none⟩)]] ((putRow encF w blk 0 (sorted1 l d)).drewN n) fun e w' => e = .returned (.tuple #[]) ∧
        ∃ n, w' = (putRow encF w blk 0 (sorted1 l d)).drewN n := by
      intro n
      have hW : Reads49 l ⟨g, 0, none⟩ A c ((putRow encF w blk 0 (sorted1 l d)).drewN n) := by
        have := h.sort ha n (sorted1 l d) #[]
        rw [sortWorld_none] at this
        exact this
      have ha2 : Apart l blk g A ((putRow encF w blk 0 (sorted1 l d)).drewN n) := ⟨ha.gne, ha.Ane, by simpa using ha.glt, by simpa using ha.Alt⟩
      have hs := sorted1_size l d
      generalize hX : sorted1 l d = X at *
      have h2 := Any.insertionSortCmpFunc_one sort79 (encF (m := m)) (fun _ => rfl) (cmpF l) 49 #[.pointer (some ⟨g, 0, none⟩)] blk 0 cap 20 d.size X _ enters49 (cmpReads49 hm hl hW ha2) (fun j hj => hput j hj) (by omega) (by omega) (by omega)
      change Calls Try.prog 79 _ _ _ at h2
      have e20 : insertionSort (ltOf (cmpF l)) X 20 d.size = X := insOuter_none _ _ _ _ _ (by omega)
      have ep : putRow encF ((putRow encF w blk 0 X).drewN n) blk 0 X = (putRow encF w blk 0 X).drewN n := putRow_self encF _ blk 0 _ (fun j hj => hput j hj)
      rw [hs, e20, ep] at h2
      refine h2.mono ?_
      rintro e w' ⟨rfl, n2, rfl⟩
      exact ⟨rfl, n + n2, by simp [World.drewN, Nat.add_assoc]⟩
    have hc := Any.insertionSortCmpFunc_one sort79 (encF (m := m)) (fun _ => rfl) (cmpF l) 49 #[.pointer (some ⟨g, 0, none⟩)] blk 0 cap 0 20 d w enters49 (cmpReads49 hm hl h ha) hH (Nat.zero_le _) (by omega) (by omega)
    change Calls Try.prog 79 _ _ _ at hc
    have hs20 : insertionSort (ltOf (cmpF l)) d 0 20 = sorted1 l d := by unfold sorted1; rw [h20]
    rw [show (((0 : Nat) : Int)) = 0 from rfl, show (((20 : Nat) : Int)) = 20 from rfl, hs20] at hc
    have HC := Lib.hid hc
    have HC2 := Lib.hid hc2
    have hd1 : decide ((20 : Int) ≤ (d.size : Int)) = true := decide_eq_true (by omega)
    have hd2 : decide ((20 : Int) < (d.size : Int)) = false := decide_eq_false (by omega)
    have hd3 : decide ((40 : Int) ≤ (d.size : Int)) = false := decide_eq_false (by omega)
    have H20 := Lib.hid h20
    have hd4 : d.size ≤ 1000 := by omega
    clear hc hc2 h ha hH hput hd h20
    go_enter Try.func69, Try.ntmps69
    go_wp2_with fail
    refine wp_loop_rounds 2 ?_
    rw [rounds_succ]
    go_wp2_with fail
    refine HC.out.mono ?_
    rintro e w1 ⟨rfl, n, rfl⟩
    go_wp2_with fail
    rw [rounds_succ]
    go_wp2_with fail
    refine (HC2.out n).mono ?_
    rintro e w1 ⟨rfl, n, rfl⟩
    go_wp2_with fail
    refine wp_loop_rounds 1 ?_
    rw [rounds_succ]
    go_wp2_with fail
    go_end0
    exact ⟨rfl, n, rfl⟩
  · have hlt : d.size < 20 := by omega
    have HC := Lib.hid hc
    have hd1 : decide ((20 : Int) ≤ (d.size : Int)) = false := decide_eq_false (by omega)
    have hd2 : decide ((20 : Int) < (d.size : Int)) = false := decide_eq_false (by omega)
    clear hc h ha hH
    go_enter Try.func69, Try.ntmps69
    go_wp2_with fail
    refine wp_loop_rounds 1 ?_
    rw [rounds_succ]
    go_wp2_with fail
    refine HC.out.mono ?_
    rintro e w1 ⟨rfl, n, rfl⟩
    go_wp2_with fail
    refine wp_loop_rounds 1 ?_
    rw [rounds_succ]
    go_wp2_with fail
    go_end0
    exact ⟨rfl, n, rfl⟩
end Go.Proofs.Ytpjobcnfjpbaeaa.A

set_option linter.unusedVariables false
set_option linter.unusedSimpArgs false
namespace Go.Proofs.Ytpjobcnfjpbaeaa.A
open Go.RowKit Go.Proofs.YtpjobcnfjpbaeaaW.PrintWords Go.Proofs.YtpjobcnfjpbaeaaW.PrintLast Go.Proofs.YtpjobcnfjpbaeaaW.PrintMore
open Go.Proofs.Ytpjobcnfjpbaeaa.PA Go.Sort
theorem putRow_owns {m : Nat} {w : World} {base blk n cap : Nat} {ys : List Value} (X : Array (Fin (m + 1))) (h : w.ownsRow base 3 1 (.slice (some ⟨blk, 0, none⟩) n cap) n ys) (hX : X.size = n) :
    (putRow encF w blk 0 X).ownsRow base 3 1 (.slice (some ⟨blk, 0, none⟩) n cap) n (X.toList.map encF) := by
  obtain ⟨h1, h2⟩ := h
  refine ⟨by simp [hX], ?_⟩
  rcases h2 with ⟨h3, _⟩ | ⟨g, cap', cur, e, hb, hg, hn, hc, hs, ht⟩
  · cases h3
  · simp only [Value.slice.injEq, Option.some.injEq, Addr.mk.injEq, and_true, true_and] at e
    obtain ⟨rfl, rfl⟩ := e
    refine .inr ⟨blk, cap, putCells encF 0 X cur, rfl, hb, ?_, hn, hc, by simp [putCells, hs], ?_⟩
    · show (w.heap.modify blk (onCells _))[blk]? = _
      rw [Array.getElem?_modify]
      simp [hg, onCells]
    · apply List.ext_getElem?
      intro k
      simp only [Nat.mul_one, List.getElem?_take, List.getElem?_map, Array.getElem?_toList]
      by_cases hk : k < n
      · rw [if_pos hk]
        have h5 : k < cur.size := by omega
        have h6 : k < X.size := by omega
        simp [putCells, h5, h6]
      · rw [if_neg hk]
        have h6 : X.size ≤ k := by omega
        simp [Array.getElem?_eq_none h6]
theorem owns_holds {m : Nat} {w : World} {base blk n cap : Nat} (X : Array (Fin (m + 1))) (h : w.ownsRow base 3 1 (.slice (some ⟨blk, 0, none⟩) n cap) n (X.toList.map encF)) : Holds encF w blk 0 X := by
  obtain ⟨h1, h2⟩ := h
  simp only [List.length_map, Array.length_toList, Nat.mul_one] at h1
  rcases h2 with ⟨h3, _⟩ | ⟨g, cap', cur, e, hb, hg, hn, hc, hs, ht⟩
  · cases h3
  · simp only [Value.slice.injEq, Option.some.injEq, Addr.mk.injEq, and_true, true_and] at e
    obtain ⟨rfl, rfl⟩ := e
    intro j hj
    have h5 : cur[j]? = some (encF X[j]!) := by
      have h6 := congrArg (·[j]?) ht
      simp only [Nat.mul_one, List.getElem?_take, List.getElem?_map, Array.getElem?_toList] at h6
      rw [if_pos (by omega)] at h6
      rw [h6]
      simp [hj]
    constructor
    · simp [World.cell?, hg, h5]
    · simp [World.frozen?, hg]
end Go.Proofs.Ytpjobcnfjpbaeaa.A

set_option linter.unusedVariables false
set_option linter.unusedSimpArgs false
namespace Go.Proofs.Ytpjobcnfjpbaeaa.A
open Go.RowKit Go.Proofs.YtpjobcnfjpbaeaaW.PrintWords Go.Proofs.YtpjobcnfjpbaeaaW.PrintLast Go.Proofs.YtpjobcnfjpbaeaaW.PrintMore
open Go.Proofs.Ytpjobcnfjpbaeaa.PA Go.Sort
def iota (n : Nat) : List Int := (List.range n).map fun (k : Nat) => (k : Int)
theorem iota_length (n : Nat) : (iota n).length = n := by simp [iota]
theorem iota_succ (n : Nat) : iota (n + 1) = iota n ++ [(n : Int)] := by simp [iota, List.range_succ]
theorem putRow_keeps {m : Nat} (w : World) (blk n : Nat) (X : Array (Fin (m + 1))) : R.Keeps [blk] w ((putRow encF w blk 0 X).drewN n) := {
  os := rfl
  tape := rfl
  output := rfl
  size := by simp
  block := fun k _ hk => by
    show (w.heap.modify blk (onCells _))[k]? = _
    rw [Array.getElem?_modify, if_neg (by simp at hk; omega)] }
def SortOK (l : List S47) (ord : List Int) : Prop :=
  ord.length = l.length ∧ ∀ (w : World) (base blk cap g : Nat) (A : Addr) (c : Nat), Reads49 l ⟨g, 0, none⟩ A c w → Apart l blk g A w →
    w.ownsRow base 3 1 (.slice (some ⟨blk, 0, none⟩) l.length cap) l.length (ints (iota l.length)) →
    Calls Try.prog 48 #[.slice (some ⟨blk, 0, none⟩) l.length cap, .func (.func 49) #[] #[.pointer (some ⟨g, 0, none⟩)]] w fun e w' => e = .returned (.tuple #[]) ∧
      w'.ownsRow base 3 1 (.slice (some ⟨blk, 0, none⟩) l.length cap) l.length (ints ord) ∧ R.Keeps [blk] w w'
def ordA (m : Nat) : Array (Fin (m + 1)) := Array.ofFn (n := m + 1) fun i => i
def ordF (l : List S47) : List Int := match l.length with | 0 => [] | m + 1 => (sorted1 l (ordA m)).toList.map fun i => ((i.val : Nat) : Int)
theorem ordA_ints (m : Nat) : (ordA m).toList.map encF = ints (iota (m + 1)) := by
  apply List.ext_getElem?
  intro k
  simp only [ordA, ints, iota, List.map_map, List.getElem?_map, Array.getElem?_toList, Array.getElem?_ofFn]
  by_cases hk : k < m + 1
  · simp [hk]
  · simp [hk]
theorem ordF_succ {l : List S47} {m : Nat} (h : l.length = m + 1) : ordF l = (sorted1 l (ordA m)).toList.map fun i => ((i.val : Nat) : Int) := by
  unfold ordF
  split
  · omega
  · rename_i n hn
    obtain rfl : n = m := by omega
    rfl
set_option maxHeartbeats 800000 in
theorem sort_small (l : List S47) (hl : l.length ≤ 20) (h0 : 0 < l.length) : SortOK l (ordF l) := by
  obtain ⟨m, hm⟩ : ∃ m, l.length = m + 1 := ⟨l.length - 1, by omega⟩
  have hsz : (ordA m).size = m + 1 := by simp [ordA]
  refine ⟨by rw [ordF_succ hm, List.length_map, Array.length_toList, sorted1_size, hsz, hm], ?_⟩
  intro w base blk cap g A c hR hA hO
  rw [show ints (iota l.length) = (ordA m).toList.map encF from by rw [hm, ordA_ints]] at hO
  have hc := stable_small (cap := cap) hm (by omega) hR hA (ordA m) (owns_holds (ordA m) hO) (by omega)
  rw [show (ordA m).size = l.length from by omega] at hc
  have ho := putRow_owns (sorted1 l (ordA m)) hO (by rw [sorted1_size, hsz, hm])
  have hk := fun n => putRow_keeps (m := m) w blk n (sorted1 l (ordA m))
  have ei : ints (ordF l) = (sorted1 l (ordA m)).toList.map encF := by rw [ordF_succ hm]; simp [ints]
  rw [← ei] at ho
  generalize ordF l = ol at ho
  have hmx : l.length ≤ 1000 := by omega
  have HC := Lib.hid hc
  have HO := Lib.hid ho
  clear hc ho hO hR hA ei hm hsz
  go_enter Try.func48, Try.ntmps48
  go_wp2_with fail
  refine HC.out.mono ?_
  rintro e w1 ⟨rfl, n, rfl⟩
  go_wp2_with fail
  go_end0
  exact ⟨rfl, own_move HO.out (fun k _ => rfl), hk n⟩
end Go.Proofs.Ytpjobcnfjpbaeaa.A

set_option linter.unusedVariables false
set_option linter.unusedSimpArgs false
namespace Go.Proofs.Ytpjobcnfjpbaeaa.A
open Go.RowKit Go.Proofs.YtpjobcnfjpbaeaaW.PrintWords Go.Proofs.YtpjobcnfjpbaeaaW.PrintLast Go.Proofs.YtpjobcnfjpbaeaaW.PrintMore
open Go.Proofs.Ytpjobcnfjpbaeaa.PA
def stepA (l : List S47) (st : List Int × List Int) (i : Int) : List Int × List Int :=
  if idxF (fun t => decide (t ≤ (l.getD i.toNat z47).f0)) st.1 < 0 then (st.1 ++ [(l.getD i.toNat z47).f1], st.2.set i.toNat st.1.length)
  else (st.1.set (idxF (fun t => decide (t ≤ (l.getD i.toNat z47).f0)) st.1).toNat (l.getD i.toNat z47).f1, st.2.set i.toNat (idxF (fun t => decide (t ≤ (l.getD i.toNat z47).f0)) st.1))
def assignF (l : List S47) (ord : List Int) : List Int × List Int := ord.foldl (stepA l) ([], List.replicate l.length 0)
theorem cell_block {w w1 : World} {a : Addr} (h : w1.heap[a.block]? = w.heap[a.block]?) : w1.cell? a = w.cell? a := by
  simp [World.cell?, h]
theorem enters52 : Enters 52 := enters_mk Try.func52 (by kernel_rfl) rfl
theorem stepA_len {l : List S47} {st : List Int × List Int} {i : Int} : (stepA l st i).2.length = st.2.length ∧ (stepA l st i).1.length ≤ st.1.length + 1 := by
  unfold stepA
  split <;> simp
theorem foldA_len {l : List S47} (ord : List Int) : ∀ st : List Int × List Int, (ord.foldl (stepA l) st).2.length = st.2.length ∧ (ord.foldl (stepA l) st).1.length ≤ st.1.length + ord.length := by
  induction ord with
  | nil => intro st; simp
  | cons i ord ih =>
    intro st
    have h1 := ih (stepA l st i)
    have h2 := stepA_len (l := l) (st := st) (i := i)
    simp only [List.foldl_cons, List.length_cons]
    omega
theorem fold_next {l : List S47} {ord : List Int} {q : Nat} (hq : q < ord.length) : (ord.take (q + 1)).foldl (stepA l) ([], List.replicate l.length 0) = stepA l ((ord.take q).foldl (stepA l) ([], List.replicate l.length 0)) (ord.getD q 0) := by
  rw [List.take_add_one, List.foldl_append, List.getElem?_eq_getElem hq]
  simp [hq]
set_option maxRecDepth 100000 in
set_option maxHeartbeats 400000 in
theorem Assign_yes (ad : Addr) (c : Nat) (l : List S47) (ord : List Int) (w : World) (hr : Kd.C k47 w (some ad) l.length l) (h : areB l = true) (h0 : 0 < l.length) (hs : SortOK l ord) (hord : ∀ i, i ∈ ord → 0 ≤ i ∧ i < l.length) :
    Calls Try.prog 31 #[.slice (some ad) l.length c] w fun e w' => ∃ v, e = .returned (.tuple #[v, .int .i64 (assignF l ord).1.length, .int .i64 0]) ∧ Kd.R (Kd.int .i64) 3 w' w.heap.size (fun _ => True) v (assignF l ord).2 ∧ Below w.heap.size w w' := by
  have hB1 := (Below.refl w.heap.size w).alloc (Nat.le_refl _) (Obj.cells #[Value.slice (some ad) l.length c] 22)
  have hch := areB_c (some ad) c l _ (Kd.C_below hr hB1)
  rw [h] at hch
  have hl40 : l.length ≤ 40 := by
    simp only [areB, Bool.and_eq_true, decide_eq_true_eq] at h
    exact h.1
  have HCH := Lib.hid hch
  have HR := Lib.hid hr
  have HS := Lib.hid hs
  have HORD := Lib.hid hord
  have HB1 := Lib.hid hB1
  clear hch hr h hs hord hB1
  go_enter Try.func31, Try.ntmps31
  go_wp2_with fail
  refine HCH.out.mono ?_
  rintro e w1 ⟨rfl, hBW1⟩
  have hs0 : (w.alloc (Obj.cells #[Value.slice (some ad) l.length c] 22)).heap.size = w.heap.size + 1 := by simp
  rw [hs0] at hBW1
  have hc0 : w1.heap[w.heap.size]? = some (.cells #[Value.slice (some ad) l.length c] 22 (0, 0)) := by rw [hBW1.block _ (by omega), heap_alloc_new]
  have HW1 : Below w.heap.size w w1 := HB1.out.trans (hBW1.mono (by omega))
  have hcell : w1.cell? ⟨w.heap.size, 0, none⟩ = some (.slice (some ad) l.length c) := by simp [World.cell?, hc0]
  have HC0 := Lib.hid hc0
  clear hc0
  have hsz1 : w.heap.size + 1 ≤ w1.heap.size := by have := hBW1.size; rw [hs0] at this; exact this
  go_wp2_with fail
  go_loopw [5, 17] (fun v5 v17 wr => ∃ (q : Nat), v17 = .int .i64 (q : Int) ∧ q ≤ l.length ∧ Hid (Kd.R (Kd.int .i64) 3 wr w1.heap.size (fun _ => True) v5 (iota q)) ∧ Below w1.heap.size w1 wr) (fun _ v17 _ => l.length - (intOf v17).toNat)
  case atStart => exact ⟨0, rfl, Nat.zero_le _, Kd.R_nil _ _ _ _ _, Below.refl _ _⟩
  case round =>
    obtain ⟨q, rfl, hq, HO, hB⟩ := hrel
    by_cases hlt : q < l.length
    · have hq1 : wrap64 ((q : Int) + 1) = ((q + 1 : Nat) : Int) := by unfold wrap64; omega
      go_wp2_with (at_builtin; refine Kd.R_append (Kd.int .i64) (w0 := w1) w1.heap.size rfl (.tmp 20) (.tmp 22) 23 3 (.int .i64 0) 8 rfl Try.underlying23 info3 rfl (by decide) (by omega) u5 (iota q) (q : Int) [.int .i64 q] (fun _ => True) (fun _ => False) rfl rfl ?aP (fun _ hk => hk.elim) (fun _ _ => trivial) ?aO ?aB ?aS ?aL ?_)
      case aP => exact rfl
      case aO => exact HO.out
      case aB => exact hB
      case aS => exact hB.size
      case aL => rw [iota_length]; omega
      intro v1 w2 ho hb hg hat
      go_wp2_with fail
      go_roundw
      case rel => exact ⟨q + 1, by go_num, by omega, (by rw [iota_succ]; exact ho), hb⟩
      case measure => simp [intOf]; omega
    · obtain rfl : q = l.length := by omega
      go_wp2_with fail
      obtain ⟨blk, cap, rfl, hg1, hg2, -⟩ := Kd.R_form HO.out (by rw [iota_length]; exact h0)
      rw [iota_length] at HO ⊢
      have hBr : Below w.heap.size w wr := HW1.trans (hB.mono (by omega))
      have hcr : wr.heap[w.heap.size]? = some (.cells #[Value.slice (some ad) l.length c] 22 (0, 0)) := by rw [hB.block _ (by omega)]; exact HC0.out
      have hRd : Reads49 l ⟨w.heap.size, 0, none⟩ ad c wr := ⟨by simp [World.cell?, hcr], fun k x hk => by
          obtain ⟨a, y, e1, e2, e3, e4, _⟩ := at_bk HR.out hBr k (List.getElem?_eq_some_iff.1 hk).1
          cases e1
          obtain rfl : x = y := Option.some.inj (hk.symm.trans e2.out)
          exact e3, fun k x hk => by
          obtain ⟨a, y, e1, e2, e3, e4, _⟩ := at_bk HR.out hBr k (List.getElem?_eq_some_iff.1 hk).1
          cases e1
          obtain rfl : x = y := Option.some.inj (hk.symm.trans e2.out)
          exact e4⟩
      have hlt0 : ad.block < w.heap.size := by
        obtain ⟨a, y, e1, e2, e3, e4, _⟩ := at_bk HR.out (Below.refl _ _) 0 h0
        cases e1
        have := World.block_lt_of_cell? w _ e3
        rwa [addr_block] at this
      have hAp : Apart l blk w.heap.size ad wr := ⟨by omega, by omega, by omega, by omega⟩
      have hown := Kd.own_of_R HO.out
      rw [iota_length] at hown
      have hsort := HS.out.2 wr w1.heap.size blk cap w.heap.size ad c hRd hAp hown
      have HSO := Lib.hid hsort
      have HRD := Lib.hid hRd
      have hwr := hB.size
      clear hsort hown hRd hAp HO
      refine HSO.out.mono ?_
      rintro e w2 ⟨rfl, hown2, hK2⟩
      have hsz2 := hK2.size
      have hB2 : Below w1.heap.size w1 w2 := hB.trans (hK2.to_below hwr (fun k hk => by simp at hk; omega))
      have hBr2 : Below w.heap.size w w2 := HW1.trans (hB2.mono (by omega))
      have hcr2 : w2.heap[w.heap.size]? = some (.cells #[Value.slice (some ad) l.length c] 22 (0, 0)) := by rw [hB2.block _ (by omega)]; exact HC0.out
      have hcell2 : w2.cell? ⟨w.heap.size, 0, none⟩ = some (.slice (some ad) l.length c) := by simp [World.cell?, hcr2]
      have hlo := HS.out.1
      have HO2 : Hid (Kd.R (Kd.int .i64) 3 w2 w1.heap.size (fun _ => True) (.slice (some ⟨blk, 0, none⟩) l.length cap) ord) := Lib.hid (Kd.R_of_own (by rw [hlo]; exact hown2) (fun _ _ => trivial))
      have HCR2 := Lib.hid hcr2
      have HM := make_ints l.length (by omega)
      clear hcr hcr2 hown2 hlo
      go_wp2_with fail
      have hin : IntRow (w2.alloc (Obj.cells (ints (List.replicate l.length 0)).toArray 3)) w2.heap.size (List.replicate l.length 0) := IntRow.mk _ _
      go_loopw [8, 33] (fun v8 v33 wr => ∃ (q : Nat) (st : List Int × List Int), v33 = .int .i64 (q : Int) ∧ q ≤ l.length ∧ Hid (st = (ord.take q).foldl (stepA l) ([], List.replicate l.length 0)) ∧
          Hid (Kd.R (Kd.int .i64) 3 wr (w2.heap.size + 1) (fun k => w2.heap.size + 1 ≤ k) v8 st.1) ∧ Hid (IntRow wr w2.heap.size st.2) ∧ Below w2.heap.size w2 wr ∧ w2.heap.size < wr.heap.size) (fun _ v33 _ => l.length - (intOf v33).toNat)
      case atStart => exact ⟨0, ([], List.replicate l.length 0), rfl, Nat.zero_le _, rfl, Kd.R_nil _ _ _ _ _, hin, (Below.refl _ _).alloc (Nat.le_refl _) _, by simp⟩
      case round =>
        obtain ⟨q, st, rfl, hq, HST, HF, HI, hBq, hzq⟩ := hrel
        by_cases hlt : q < l.length
        · have hlt' : (q : Int) < l.length := by omega
          have hlo := HS.out.1
          have hcl := Kd.R_celln (d := 0) (Kd.R_below HO2.out hBq) (q : Int) (by omega) (by omega)
          rw [Int.toNat_natCast] at hcl
          obtain ⟨z1, _⟩ := hcl
          obtain ⟨i, hi⟩ : ∃ i : Int, rdOf 0 ord (q : Int) = i := ⟨_, rfl⟩
          rw [hi] at z1
          have hi' : ord.getD q 0 = i := by rw [← hi]; simp [rdOf]
          have hio := HORD.out i (by rw [← hi', List.getD_eq_getElem?_getD, List.getElem?_eq_getElem (by omega : q < ord.length)]; exact List.getElem_mem _)
          have hnext := fold_next (l := l) (ord := ord) (q := q) (by omega)
          rw [hi'] at hnext
          obtain ⟨i, rfl⟩ := Int.eq_ofNat_of_zero_le hio.1
          rw [← HST.out] at hnext
          have HNX := Lib.hid hnext
          clear hi hi' hnext hlo
          have hBr3 : Below w.heap.size w wr := hBr2.trans (hBq.mono (by have := hBr2.size; exact this))
          obtain ⟨a', x, ea, HX, x0, x1, x2⟩ := at_bk HR.out hBr3 i (by omega)
          cases ea
          obtain ⟨FA, fc, rfl, hfc, hFC⟩ := Kd.R_reads HF.out
          have hCb := HC0.out
          have hsr : (wr.alloc (Obj.cells #[Value.int IntKind.i64 i] 3)).heap.size = wr.heap.size + 1 := by simp
          have hBa : Below wr.heap.size wr (wr.alloc (Obj.cells #[Value.int IntKind.i64 i] 3)) := (Below.refl _ _).alloc (Nat.le_refl _) _
          have hpred : PredOf 52 #[Value.pointer (some ⟨w.heap.size, 0, none⟩), Value.pointer (some ⟨wr.heap.size, 0, none⟩)] it (fun t => decide (t ≤ x.f0)) (wr.alloc (Obj.cells #[Value.int IntKind.i64 i] 3)) := fun W t hW => by
            rw [hsr] at hW
            have hWw : Below w.heap.size w W := hBr3.trans ((hBa.trans (hW.mono (by omega))).mono (by have := hBr3.size; exact this))
            have hcW : W.heap[w.heap.size]? = some (.cells #[Value.slice (some ad) l.length c] 22 (0, 0)) := by
              rw [hW.block _ (by have := hBr3.size; omega), Below.heap_alloc _ _ _ (by omega), hBq.block _ (by have := hBr2.size; omega)]; exact HCR2.out
            have hbW : W.heap[wr.heap.size]? = some (.cells #[Value.int IntKind.i64 i] 3 (0, 0)) := by
              rw [hW.block _ (by omega)]; exact heap_alloc_new _ _
            refine (free52_c l w.heap.size wr.heap.size ad c i t x (by omega) HX.out W ⟨by simp [World.cell?, hcW], fun k x' hk => ?_, fun k x' hk => ?_⟩ (by simp [World.cell?, hbW])).mono (fun e w' h => ⟨h.1, h.2 ▸ Below.refl _ _⟩)
            · obtain ⟨a, y, e1, e2, e3, e4, _⟩ := at_bk HR.out hWw k (List.getElem?_eq_some_iff.1 hk).1
              cases e1
              obtain rfl : x' = y := Option.some.inj (hk.symm.trans e2.out)
              exact e3
            · obtain ⟨a, y, e1, e2, e3, e4, _⟩ := at_bk HR.out hWw k (List.getElem?_eq_some_iff.1 hk).1
              cases e1
              obtain rfl : x' = y := Option.some.inj (hk.symm.trans e2.out)
              exact e4
          have hcall := idxInt_c 52 #[Value.pointer (some ⟨w.heap.size, 0, none⟩), Value.pointer (some ⟨wr.heap.size, 0, none⟩)] (fun t => decide (t ≤ x.f0)) FA fc st.1 _ enters52 hpred (Kd.C_below hFC hBa)
          rw [hsr] at hcall
          have hrg := idxF_range (fun t => decide (t ≤ x.f0)) st.1
          have hst : stepA l st (i : Int) = if idxF (fun t => decide (t ≤ x.f0)) st.1 < 0 then (st.1 ++ [x.f1], st.2.set i st.1.length) else (st.1.set (idxF (fun t => decide (t ≤ x.f0)) st.1).toNat x.f1, st.2.set i (idxF (fun t => decide (t ≤ x.f0)) st.1)) := by
            unfold stepA
            have e : l.getD i z47 = x := by rw [List.getD_eq_getElem?_getD, HX.out]; rfl
            simp only [Int.toNat_natCast, e]
          obtain ⟨kk, hkk⟩ : ∃ kk, idxF (fun t => decide (t ≤ x.f0)) st.1 = kk := ⟨_, rfl⟩
          rw [hkk] at hcall hrg hst
          have hfl := foldA_len (l := l) (ord.take q) ([], List.replicate l.length 0)
          rw [← HST.out] at hfl
          have hfl1 : st.2.length = l.length := by simpa using hfl.1
          have hfl2 : st.1.length ≤ 40 := by have := hfl.2; simp at this; omega
          have HCALL := Lib.hid hcall
          have HSTEP := Lib.hid hst
          have HFC := Lib.hid hFC
          have HL1 := Lib.hid hfl1
          have hr1 := hrg.1
          have hr2 := hrg.2.1
          have x1' := x1
          clear hcall hst hpred hkk hrg hfl hfl1 hCb hFC x0 x1 x2
          by_cases hk : kk < 0
          · obtain rfl : kk = -1 := by omega
            rw [if_pos (by omega)] at HSTEP
            go_wp2_with fail
            refine HCALL.out.mono ?_
            rintro e w4 ⟨rfl, hB4⟩
            have hsz4 := hB4.size
            have hFw4 : Kd.R (Kd.int .i64) 3 w4 (w2.heap.size + 1) (fun k => w2.heap.size + 1 ≤ k) (.slice FA st.1.length fc) st.1 := Kd.R_below (Kd.R_below HF.out hBa) (by rw [hsr]; exact hB4)
            have HF4 := Lib.hid hFw4
            clear hFw4
            go_wp2_with (at_builtin; refine Kd.R_append (Kd.int .i64) (w0 := w4) (w2.heap.size + 1) rfl (.tmp 44) (.tmp 45) 23 3 (.int .i64 0) 8 rfl Try.underlying23 info3 rfl (by decide) (by omega) (.slice FA st.1.length fc) st.1 0 [.int .i64 0] (fun k => w2.heap.size + 1 ≤ k) (fun _ => False) rfl rfl ?aP (fun _ hk => hk.elim) (fun _ _ => by omega) ?aO ?aB ?aS ?aL ?_)
            case aP => exact rfl
            case aO => exact HF4.out
            case aB => exact Below.refl _ _
            case aS => omega
            case aL => omega
            intro v1 w5 hF5 hb5 hg5 hat5
            have hfb : ∀ k, (Value.slice FA st.1.length fc).ownBlock = some k → k < wr.heap.size ∧ w2.heap.size + 1 ≤ k := fun k e => ⟨Kd.R_lt HF.out k e, HF.out.1 k e⟩
            have hblk5 : ∀ k, k < wr.heap.size + 1 → (k = wr.heap.size ∨ k ≤ w2.heap.size) → w5.heap[k]? = (wr.alloc (Obj.cells #[Value.int IntKind.i64 i] 3)).heap[k]? := fun k h1 h2 => by
              rw [hg5.block k (by omega) (fun e => by have := hfb k e.symm; omega), hB4.block k h1]
            have HB5 := Lib.hid (((hBq.alloc (by omega) (Obj.cells #[Value.int IntKind.i64 i] 3)).trans (hB4.mono (by omega))).trans (hb5.mono (by omega)))
            have Hgne : Hid (v1.ownBlock ≠ some wr.heap.size) := Lib.hid (fun e => by
              rcases hat5 with h | ⟨b, h, h2⟩
              · have := hfb _ (h.symm.trans e); omega
              · rw [e] at h; have := Option.some.inj h; omega)
            have hB5 : Below w2.heap.size w2 w5 := HB5.out
            have hI5 : IntRow w5 w2.heap.size st.2 := by
              have := HI.out.alloc (Obj.cells #[Value.int IntKind.i64 i] 3)
              unfold IntRow at this ⊢
              rw [hblk5 _ (by omega) (by omega)]; exact this
            have hin5 : w5.heap[w.heap.size]? = some (.cells #[Value.slice (some ad) l.length c] 22 (0, 0)) := by
              rw [hblk5 _ (by omega) (by omega), Below.heap_alloc _ _ _ (by omega), hBq.block _ (by omega)]; exact HCR2.out
            have hbx5 : w5.heap[wr.heap.size]? = some (.cells #[Value.int IntKind.i64 i] 3 (0, 0)) := by
              rw [hblk5 _ (by omega) (Or.inl rfl)]; exact heap_alloc_new _ _
            have y0 : w5.cell? ⟨w.heap.size, 0, none⟩ = some (.slice (some ad) l.length c) := by simp [World.cell?, hin5]
            have y1 : w5.cell? ⟨wr.heap.size, 0, none⟩ = some (.int .i64 (i : Int)) := by simp [World.cell?, hbx5]
            have y2 : w5.cell? ⟨(ad.add (i * 3)).block, (ad.add (i * 3)).off + 1, none⟩ = some (.int .i64 x.f1) := by
              have hlt2 := World.block_lt_of_cell? wr _ x1'
              have hle2 : (ad.add (i * 3)).block < w.heap.size := by rw [addr_block]; exact hlt0
              rw [cell_block (w := wr.alloc (Obj.cells #[Value.int IntKind.i64 i] 3)) (hblk5 _ (by show (ad.add (i * 3)).block < _; omega) (Or.inr (by show (ad.add (i * 3)).block ≤ _; omega))), cell_block (w := wr) (Below.heap_alloc _ _ _ hlt2)]
              exact x1'
            obtain ⟨g', cap', hv', hgg1, hgg2, -⟩ := Kd.R_form hF5 (by simp; try omega)
            have hF6 := hF5
            rw [hv'] at hF6
            have hne1 : g' ≠ w2.heap.size := by omega
            have hne2 : g' ≠ wr.heap.size := fun e => Hgne.out (by rw [hv']; show some g' = _; rw [e])
            have hcl := Kd.R_celln (d := 0) hF6 (((st.1.length : Nat)) : Int) (by omega) (by simp; try omega)
            rw [Int.toNat_natCast] at hcl
            obtain ⟨_, hfz⟩ := hcl
            have hput := Kd.R_putn hF6 (((st.1.length : Nat)) : Int) x.f1
            rw [Int.toNat_natCast] at hput
            have hI6 := hI5.far (p := ⟨g', st.1.length, none⟩) (Ne.symm hne1) (.int .i64 x.f1)
            have hfz2 := hI6.free i
            obtain ⟨o2, ho2⟩ : ∃ o, st.2[i]? = some o := ⟨_, List.getElem?_eq_getElem (by rw [HL1.out]; omega)⟩
            have hce2 := hI6.cell ho2
            clear ho2
            have y1' : (w5.setCell ⟨g', st.1.length, none⟩ (.int .i64 x.f1)).cell? ⟨wr.heap.size, 0, none⟩ = some (.int .i64 (i : Int)) := by
              rw [cell_block (w := w5) (Below.heap_setCell _ _ _ _ (Ne.symm hne2))]; exact y1
            have HP := Lib.hid hput
            have HI6 := Lib.hid hI6
            have hi40 : i < l.length := by omega
            have hi41 : (i : Int) < l.length := by omega
            have hkN : st.1.length < (st.1.length + 1) := by (try simp); (try omega)
            have hkN' : (((st.1.length : Nat)) : Int) < (st.1.length + 1) := by (try simp); (try omega)
            have HST2 := Lib.hid (HNX.out.trans HSTEP.out)
            have Hg1 := Lib.hid hgg1
            have Hsz5 : Hid (w2.heap.size < w5.heap.size) := Lib.hid (by omega)
            have HL4 : st.1.length + 1 ≤ 41 := by omega
            subst hv'
            simp only [List.length_append, List.length_cons, List.length_nil, Nat.zero_add] at hF5 hF6 HP ⊢
            clear hF5 hF6 hput hI6 hI5 hB5 hb5 hg5 hat5 hblk5 hfb hin5 hbx5 hne1 hne2 hgg1 hgg2 hB4 hBa hsr hfc
            go_wp2_with fail
            go_roundw
            case rel =>
              refine ⟨q + 1, (st.1 ++ [x.f1], st.2.set i st.1.length), by go_num, by omega, HST2.out.symm, ?_, ?_, ?_, ?_⟩
              · have h := HP.out
                rw [show (st.1 ++ [(0 : Int)]).set st.1.length x.f1 = st.1 ++ [x.f1] from by simp] at h
                exact Kd.R_far h (fun k hk => by show k ≠ w2.heap.size; omega) _
              · exact HI6.out.set i _
              · exact (HB5.out.setCell (p := ⟨g', st.1.length, none⟩) (by have := Hg1.out; show w2.heap.size ≤ g'; omega) _).setCell (p := ⟨w2.heap.size, i, none⟩) (Nat.le_refl _) _
              · have := Hsz5.out; simp [World.setCell]; omega
            case measure => simp [intOf]; omega
          · obtain ⟨kk, rfl⟩ := Int.eq_ofNat_of_zero_le (show 0 ≤ kk by omega)
            rw [if_neg hk, Int.toNat_natCast] at HSTEP
            go_wp2_with fail
            refine HCALL.out.mono ?_
            rintro e w4 ⟨rfl, hB4⟩
            have hsz4 := hB4.size
            have hF5 : Kd.R (Kd.int .i64) 3 w4 (w2.heap.size + 1) (fun k => w2.heap.size + 1 ≤ k) (.slice FA st.1.length fc) st.1 := Kd.R_below (Kd.R_below HF.out hBa) (by rw [hsr]; exact hB4)
            have hfb : ∀ k, (Value.slice FA st.1.length fc).ownBlock = some k → k < wr.heap.size ∧ w2.heap.size + 1 ≤ k := fun k e => ⟨Kd.R_lt HF.out k e, HF.out.1 k e⟩
            have hblk5 : ∀ k, k < wr.heap.size + 1 → (k = wr.heap.size ∨ k ≤ w2.heap.size) → w4.heap[k]? = (wr.alloc (Obj.cells #[Value.int IntKind.i64 i] 3)).heap[k]? := fun k h1 h2 => hB4.block k h1
            have HB5 := Lib.hid ((hBq.alloc (by omega) (Obj.cells #[Value.int IntKind.i64 i] 3)).trans (hB4.mono (by omega)))
            have Hgne : Hid ((Value.slice FA st.1.length fc).ownBlock ≠ some wr.heap.size) := Lib.hid (fun e => by have := hfb _ e; omega)
            have hB5 : Below w2.heap.size w2 w4 := HB5.out
            have hI5 : IntRow w4 w2.heap.size st.2 := by
              have := HI.out.alloc (Obj.cells #[Value.int IntKind.i64 i] 3)
              unfold IntRow at this ⊢
              rw [hblk5 _ (by omega) (by omega)]; exact this
            have hin5 : w4.heap[w.heap.size]? = some (.cells #[Value.slice (some ad) l.length c] 22 (0, 0)) := by
              rw [hblk5 _ (by omega) (by omega), Below.heap_alloc _ _ _ (by omega), hBq.block _ (by omega)]; exact HCR2.out
            have hbx5 : w4.heap[wr.heap.size]? = some (.cells #[Value.int IntKind.i64 i] 3 (0, 0)) := by
              rw [hblk5 _ (by omega) (Or.inl rfl)]; exact heap_alloc_new _ _
            have y0 : w4.cell? ⟨w.heap.size, 0, none⟩ = some (.slice (some ad) l.length c) := by simp [World.cell?, hin5]
            have y1 : w4.cell? ⟨wr.heap.size, 0, none⟩ = some (.int .i64 (i : Int)) := by simp [World.cell?, hbx5]
            have y2 : w4.cell? ⟨(ad.add (i * 3)).block, (ad.add (i * 3)).off + 1, none⟩ = some (.int .i64 x.f1) := by
              have hlt2 := World.block_lt_of_cell? wr _ x1'
              have hle2 : (ad.add (i * 3)).block < w.heap.size := by rw [addr_block]; exact hlt0
              rw [cell_block (w := wr.alloc (Obj.cells #[Value.int IntKind.i64 i] 3)) (hblk5 _ (by show (ad.add (i * 3)).block < _; omega) (Or.inr (by show (ad.add (i * 3)).block ≤ _; omega))), cell_block (w := wr) (Below.heap_alloc _ _ _ hlt2)]
              exact x1'
            obtain ⟨g', cap', hv', hgg1, hgg2, -⟩ := Kd.R_form hF5 (by omega)
            have hF6 := hF5
            rw [hv'] at hF6
            have hne1 : g' ≠ w2.heap.size := by omega
            have hne2 : g' ≠ wr.heap.size := fun e => Hgne.out (by rw [hv']; show some g' = _; rw [e])
            have hcl := Kd.R_celln (d := 0) hF6 ((kk : Nat) : Int) (by omega) (by omega)
            rw [Int.toNat_natCast] at hcl
            obtain ⟨_, hfz⟩ := hcl
            have hput := Kd.R_putn hF6 ((kk : Nat) : Int) x.f1
            rw [Int.toNat_natCast] at hput
            have hI6 := hI5.far (p := ⟨g', kk, none⟩) (Ne.symm hne1) (.int .i64 x.f1)
            have hfz2 := hI6.free i
            obtain ⟨o2, ho2⟩ : ∃ o, st.2[i]? = some o := ⟨_, List.getElem?_eq_getElem (by rw [HL1.out]; omega)⟩
            have hce2 := hI6.cell ho2
            clear ho2
            have y1' : (w4.setCell ⟨g', kk, none⟩ (.int .i64 x.f1)).cell? ⟨wr.heap.size, 0, none⟩ = some (.int .i64 (i : Int)) := by
              rw [cell_block (w := w4) (Below.heap_setCell _ _ _ _ (Ne.symm hne2))]; exact y1
            have HP := Lib.hid hput
            have HI6 := Lib.hid hI6
            have hi40 : i < l.length := by omega
            have hi41 : (i : Int) < l.length := by omega
            have hkN : kk < st.1.length := by omega
            have hkN' : (kk : Int) < st.1.length := by omega
            have HST2 := Lib.hid (HNX.out.trans HSTEP.out)
            have Hg1 := Lib.hid hgg1
            have Hsz5 : Hid (w2.heap.size < w4.heap.size) := Lib.hid (by omega)
            obtain ⟨rfl, _, rfl⟩ := (Value.slice.injEq _ _ _ _ _ _).mp hv'
            clear hF5 hF6 hput hI6 hI5 hB5 hblk5 hfb hin5 hbx5 hne1 hne2 hgg1 hgg2 hB4 hBa hsr hfc hv'
            go_wp2_with fail
            go_roundw
            case rel =>
              refine ⟨q + 1, (st.1.set kk x.f1, st.2.set i (kk : Int)), by go_num, by omega, HST2.out.symm, ?_, ?_, ?_, ?_⟩
              · exact Kd.R_far HP.out (fun k hk => by show k ≠ w2.heap.size; omega) _
              · exact HI6.out.set i _
              · exact (HB5.out.setCell (p := ⟨g', kk, none⟩) (by have := Hg1.out; show w2.heap.size ≤ g'; omega) _).setCell (p := ⟨w2.heap.size, i, none⟩) (Nat.le_refl _) _
              · have := Hsz5.out; simp [World.setCell]; omega
            case measure => simp [intOf]; omega
        · obtain rfl : q = l.length := by omega
          have hlo := HS.out.1
          have hst : st = assignF l ord := by rw [HST.out, show l.length = ord.length from hlo.symm, List.take_length]; unfold assignF; rw [hlo]
          have hfl := foldA_len (l := l) ord ([], List.replicate l.length 0)
          have hfl1 : (assignF l ord).2.length = l.length := by simpa [assignF] using hfl.1
          subst hst
          obtain ⟨FA, fc, rfl, hfc, hFC⟩ := Kd.R_reads HF.out
          have HL1 := Lib.hid hfl1
          clear hlo hfl hfl1 hFC hfc
          go_wp2_with fail
          have hout : Kd.R (Kd.int .i64) 3 wr w.heap.size (fun _ => True) (.slice (some ⟨w2.heap.size, 0, none⟩) l.length l.length) (assignF l ord).2 := by
            refine Kd.R_of_own (e := 3) ?_ (fun _ _ => trivial)
            rw [HL1.out]
            refine ⟨by simp [encs, HL1.out], .inr ⟨w2.heap.size, l.length, _, rfl, by have := hBr2.size; omega, HI.out, Nat.le_refl _, ?_, ?_, ?_⟩⟩
            · unfold maxLen; omega
            · simp [ints, HL1.out]
            · have e : (ints (assignF l ord).2).length = l.length * 1 := by rw [ints_length, HL1.out]; omega
              rw [← e]
              simp only [List.toList_toArray, List.take_length]
              rfl
          refine bodyPost_ret (v := .tuple #[.slice (some ⟨w2.heap.size, 0, none⟩) l.length l.length, .int .i64 (assignF l ord).1.length, .int .i64 0]) (by simp [results, Try.results31, go_sem]) rfl ⟨_, rfl, hout, ?_⟩
          exact hBr2.trans (hBq.mono (by have := hBr2.size; exact this))
end Go.Proofs.Ytpjobcnfjpbaeaa.A

set_option linter.unusedVariables false
set_option linter.unusedSimpArgs false
namespace Go.Proofs.Ytpjobcnfjpbaeaa.A
open Go.RowKit Go.Proofs.YtpjobcnfjpbaeaaW.PrintWords Go.Proofs.YtpjobcnfjpbaeaaW.PrintLast Go.Proofs.YtpjobcnfjpbaeaaW.PrintMore
open Go.Proofs.Ytpjobcnfjpbaeaa.PA
set_option maxRecDepth 100000 in
set_option maxHeartbeats 800000 in
theorem list_c (A : Option Addr) (c : Nat) (l : List Int) (w : World) (hr : Kd.C (Kd.int .i64) w A l.length l) (hcc : l.length ≤ c) :
    Calls Try.prog 15 #[.slice A l.length c] w fun e w' => ∃ v, e = .returned v ∧ Kd.R (Kd.int .i64) 3 w' w.heap.size (fun _ => True) v (l.take 61) ∧ Below w.heap.size w w' := by
  have hl : l.length ≤ 9223372036854775807 := hr.2.1
  obtain ⟨i0, hi0, _, hsz, _⟩ := info_parts info3
  have hj0 : 0 ≤ min (l.length : Int) 61 := by omega
  have hj1 : min (l.length : Int) 61 ≤ l.length := by omega
  have hjt : l.take (min (l.length : Int) 61).toNat = l.take 61 := by
    by_cases h : 61 < (l.length : Int)
    · rw [show min (l.length : Int) 61 = 61 by omega]; rfl
    · rw [List.take_of_length_le (by omega), List.take_of_length_le (by omega)]
  have hlen : (l.take 61).length = (min (l.length : Int) 61).toNat := by rw [List.length_take]; omega
  obtain ⟨hcut, hA, hC⟩ := print_take_of (P := Try.prog) (Value.int .i64) 0 23 3 .i64 Try.underlying23 hi0 hsz A c l _ hj0 hj1 hcc
  have hA' := hA _ (Kd.reads_of_C hr)
  rw [hjt, hlen] at hA' hcut hC
  have HR := Lib.hid (Kd.C_of_reads (h1 := fun _ => rfl) hA')
  have hle : (l.take 61).length ≤ 61 := by rw [List.length_take]; omega
  clear hA hA' hC hi0 hsz hr hjt hlen
  go_enter Try.func15, Try.ntmps15
  go_wp2_with (at_builtin; refine Kd.R_append_rows (Kd.int .i64) (w0 := w) w.heap.size rfl (.tmp 4) (.tmp 9) 23 3 (.int .i64 0) 8 rfl Try.underlying23 info3 rfl (by decide) (by omega) (.slice none 0 0) ([] : List Int) (l.take 61) _ _ _ (fun _ => True) (fun _ => False) rfl rfl ?aO ?aR (fun _ _ h => h) (fun _ h => h.elim) (fun _ _ => trivial) ?aB ?aS ?aL ?_)
  case aO => exact Kd.R_nil _ _ _ _ _
  case aR => exact HR.out
  case aB => exact Below.refl _ _
  case aS => omega
  case aL => simp only [List.length_nil]; omega
  intro v1 w1 ho hb hg hat
  have HO := Lib.hid ho
  clear ho
  go_wp2_with fail
  go_ret
  exact ⟨_, rfl, HO.out, hb⟩
end Go.Proofs.Ytpjobcnfjpbaeaa.A

set_option linter.unusedVariables false
set_option linter.unusedSimpArgs false
namespace Go.Proofs.Ytpjobcnfjpbaeaa.PA
open Go.RowKit Go.Proofs.YtpjobcnfjpbaeaaW.PrintWords Go.Proofs.YtpjobcnfjpbaeaaW.PrintLast Go.Proofs.YtpjobcnfjpbaeaaW.PrintMore
open Go.Proofs.Ytpjobcnfjpbaeaa.A
def turndownlaw08_list.f (l0 : List Int) : Option (List Int) := some (l0.take 61)
theorem turndownlaw08_list.calls (A0 : Option Addr) (c0 : Nat) (l0 : List Int) (r : List Int) (w : World) (hr0 : Kd.C (Kd.int .i64) w A0 l0.length l0) (hc0 : l0.length ≤ c0) (h : turndownlaw08_list.f l0 = some r) :
    Calls Try.prog 15 #[.slice A0 l0.length c0] w fun e w' => ∃ v0_ : Value, e = .returned (v0_) ∧ Kd.R (Kd.int .i64) 3 w' w.heap.size (fun _ => True) v0_ r ∧ Below w.heap.size w w' := by
  unfold turndownlaw08_list.f at h
  injection h with h
  subst h
  exact list_c A0 c0 l0 w hr0 hc0
end Go.Proofs.Ytpjobcnfjpbaeaa.PA

namespace Go.Proofs.Ytpjobcnfjpbaeaa.PA
open Go.RowKit Go.Proofs.YtpjobcnfjpbaeaaW.PrintWords Go.Proofs.YtpjobcnfjpbaeaaW.PrintLast Go.Proofs.YtpjobcnfjpbaeaaW.PrintMore
attribute [local go_sem] max2_int min2_int max_two min_two max_three min_three max_four min_four
set_option linter.unusedVariables false
set_option linter.unusedSimpArgs false
def turndownlaw08_ints.l0 : Nat → List Int → List Int → Int → Option (Bool)
  | 0, _, _, _ => none
  | k + 1, x0, x1, x5 => if x5 < (x0.length : Int) then (if 0 ≤ x5 then (if x5 < (x1.length : Int) then (if (rd x0 x5) = (rd x1 x5) then (turndownlaw08_ints.l0 k x0 x1 (wrap64 (x5 + 1))) else (some false)) else (none)) else (none)) else (some true)
def turndownlaw08_ints.f (k : Nat) (l0 : List Int) (l1 : List Int) : Option (Bool) := if (l0.length : Int) = (l1.length : Int) then (turndownlaw08_ints.l0 k l0 l1 0) else (some false)
set_option maxHeartbeats 8000000 in
set_option maxRecDepth 100000 in
theorem turndownlaw08_ints.calls (k : Nat) (A0 : Option Addr) (c0 : Nat) (l0 : List Int) (A1 : Option Addr) (c1 : Nat) (l1 : List Int) (r : Bool) (w : World) (hr0 : Kd.C (Kd.int .i64) w A0 l0.length l0) (hc0 : l0.length ≤ c0) (hr1 : Kd.C (Kd.int .i64) w A1 l1.length l1) (hc1 : l1.length ≤ c1) (h : turndownlaw08_ints.f k l0 l1 = some r) :
    Calls Try.prog 32 #[.slice A0 l0.length c0, .slice A1 l1.length c1] w fun e w' => e = .returned (.bool r) ∧ Drawn0 w w' := by
  have HR0 := Aside0.mk hr0
  have HC0 := Aside0.mk hc0
  clear hr0 hc0
  have HR1 := Aside0.mk hr1
  have HC1 := Aside0.mk hc1
  clear hr1 hc1
  have H : (if (l0.length : Int) = (l1.length : Int) then (turndownlaw08_ints.l0 k l0 l1 0) else (some false)) = some r := h
  clear h
  by_cases c3 : (l0.length : Int) = (l1.length : Int)
  · rw [if_pos c3] at H
    have c3b0 : ((l0.length : Int) == (l1.length : Int)) = true := beq_iff_eq.mpr c3
    have c3b1 : ((l0.length : Int) != (l1.length : Int)) = false := bne_eq_false_iff_eq.mpr c3
    have c3b2 : (l0.length == l1.length) = true := by first | simpa using c3 | (simp at c3 ⊢; omega)
    clear c3
    have H' := Aside0.mk H
    clear H
    go_enter Try.func32, Try.ntmps32
    go_wp2
    repeat (go_quiet (fail); try go_wp2)
    go_loopg [5] k (fun kq v5 w' => ∃ (x5_1 : Int), v5 = .int .i64 x5_1 ∧ Aside0 (turndownlaw08_ints.l0 kq l0 l1 x5_1 = some r) ∧ Aside0 (kq ≤ k) ∧ Drawn0 w w')
    case atStart => exact ⟨(0), (by first | rfl | (simp; done) | (simp [*]; done)), H', ⟨Nat.le_refl _⟩, by repeat (first | exact Drawn0.refl _ | apply Drawn0.step)⟩
    case round =>
      clear H'
      try clear c1
      try clear p2
      try clear c3
      try clear c3b0
      try clear c3b1
      try clear c3b2
      obtain ⟨x5_1, rfl, HA, HK1, ⟨m1, rfl⟩⟩ := hrel
      cases gk with
      | zero => exact absurd HA.out (by simp [turndownlaw08_ints.l0])
      | succ k1 =>
        have H := HA.out
        clear HA
        simp only [turndownlaw08_ints.l0] at H
        by_cases c4 : x5_1 < (l0.length : Int)
        · rw [if_pos c4] at H
          have c4b0 : decide (x5_1 < (l0.length : Int)) = true := decide_eq_true c4
          clear c4
          by_cases c5 : 0 ≤ x5_1
          · rw [if_pos c5] at H
            have c5b0 : decide (0 ≤ x5_1) = true := decide_eq_true c5
            clear c5
            by_cases c6 : x5_1 < (l1.length : Int)
            · rw [if_pos c6] at H
              have c6b0 : decide (x5_1 < (l1.length : Int)) = true := decide_eq_true c6
              clear c6
              by_cases c7 : (rd l0 x5_1) = (rd l1 x5_1)
              · rw [if_pos c7] at H
                have c7b0 : ((rd l0 x5_1) == (rd l1 x5_1)) = true := beq_iff_eq.mpr c7
                have c7b1 : ((rd l0 x5_1) != (rd l1 x5_1)) = false := bne_eq_false_iff_eq.mpr c7
                clear c7
                have H' := Aside0.mk H
                clear H
                have p148 : 0 ≤ (x5_1 : Int) := of_decide_eq_true (by first | (with_reducible assumption) | assumption)
                have q148 : x5_1 < (l0.length : Int) := of_decide_eq_true (by first | (with_reducible assumption) | assumption)
                obtain ⟨ad148, e148, hx148_0⟩ := Kd.at_int HR0.out x5_1 p148 q148
                cases e148
                replace p148 := eq_true p148
                replace q148 := eq_true q148
                have p149 : 0 ≤ (x5_1 : Int) := of_decide_eq_true (by first | (with_reducible assumption) | assumption)
                have q149 : x5_1 < (l1.length : Int) := of_decide_eq_true (by first | (with_reducible assumption) | assumption)
                obtain ⟨ad149, e149, hx149_0⟩ := Kd.at_int HR1.out x5_1 p149 q149
                cases e149
                replace p149 := eq_true p149
                replace q149 := eq_true q149
                go_wp2
                repeat (go_quiet (fail); try go_wp2)
                go_roundg k1
                case measure => have := HK1.out; omega
                case rel => exact ⟨(wrap64 (x5_1 + 1)), (by first | rfl | (simp; done) | (simp [*]; done)), H', ⟨by have := HK1.out; omega⟩, by repeat (first | exact Drawn0.refl _ | apply Drawn0.step)⟩
              · rw [if_neg c7] at H
                have c7b0 : ((rd l0 x5_1) == (rd l1 x5_1)) = false := beq_eq_false_iff_ne.mpr c7
                have c7b1 : ((rd l0 x5_1) != (rd l1 x5_1)) = true := bne_iff_ne.mpr c7
                obtain rfl := Option.some.inj H
                have p148 : 0 ≤ (x5_1 : Int) := of_decide_eq_true (by first | (with_reducible assumption) | assumption)
                have q148 : x5_1 < (l0.length : Int) := of_decide_eq_true (by first | (with_reducible assumption) | assumption)
                obtain ⟨ad148, e148, hx148_0⟩ := Kd.at_int HR0.out x5_1 p148 q148
                cases e148
                replace p148 := eq_true p148
                replace q148 := eq_true q148
                have p149 : 0 ≤ (x5_1 : Int) := of_decide_eq_true (by first | (with_reducible assumption) | assumption)
                have q149 : x5_1 < (l1.length : Int) := of_decide_eq_true (by first | (with_reducible assumption) | assumption)
                obtain ⟨ad149, e149, hx149_0⟩ := Kd.at_int HR1.out x5_1 p149 q149
                cases e149
                replace p149 := eq_true p149
                replace q149 := eq_true q149
                go_wp2
                repeat (go_quiet (fail); try go_wp2)
                go_ret
                exact ⟨by first | rfl | (simp; done) | (simp [*]; done), by repeat (first | exact Drawn0.refl _ | apply Drawn0.step)⟩
            · rw [if_neg c6] at H
              exact absurd H (by simp)
          · rw [if_neg c5] at H
            exact absurd H (by simp)
        · rw [if_neg c4] at H
          have c4b0 : decide (x5_1 < (l0.length : Int)) = false := decide_eq_false c4
          clear c4
          obtain rfl := Option.some.inj H
          go_wp2
          repeat (go_quiet (fail); try go_wp2)
          go_ret
          exact ⟨by first | rfl | (simp; done) | (simp [*]; done), by repeat (first | exact Drawn0.refl _ | apply Drawn0.step)⟩
  · rw [if_neg c3] at H
    have c3b0 : ((l0.length : Int) == (l1.length : Int)) = false := beq_eq_false_iff_ne.mpr c3
    have c3b1 : ((l0.length : Int) != (l1.length : Int)) = true := bne_iff_ne.mpr c3
    have c3b2 : (l0.length == l1.length) = false := by first | simpa using c3 | (simp at c3 ⊢; omega)
    obtain rfl := Option.some.inj H
    go_enter Try.func32, Try.ntmps32
    go_wp2
    repeat (go_quiet (fail); try go_wp2)
    go_ret
    exact ⟨by first | rfl | (simp; done) | (simp [*]; done), by repeat (first | exact Drawn0.refl _ | apply Drawn0.step)⟩
end Go.Proofs.Ytpjobcnfjpbaeaa.PA

set_option linter.unusedVariables false
set_option linter.unusedSimpArgs false
namespace Go.Proofs.Ytpjobcnfjpbaeaa.A
open Go.RowKit Go.Proofs.YtpjobcnfjpbaeaaW.PrintWords Go.Proofs.YtpjobcnfjpbaeaaW.PrintLast Go.Proofs.YtpjobcnfjpbaeaaW.PrintMore
open Go.Proofs.Ytpjobcnfjpbaeaa.PA
def awL : List S47 := [⟨0, 2, 5⟩, ⟨1, 3, 6⟩, ⟨2, 3, 2⟩]
def awR : List Int := [1, 1, 1]
theorem awF : bestF 100 awL awR = some ([0, 2], [0, 4, 2], 7) := by decide +kernel
theorem awQ : quoteF 100 awL awR 1 2 = some (5, 0) := by decide +kernel
theorem awB : areB awL = true := by decide +kernel
theorem awG : checkB awL awR = true := by decide +kernel
theorem awO : ordF awL = [0, 1, 2] := by
  simp only [ordF, awL, List.length_cons, List.length_nil, sorted1, ordA]
  decide +kernel
theorem awA : assignF awL [0, 1, 2] = ([3, 3], [0, 1, 0]) := by decide +kernel
def bkCells (x : S47) : List Value := [.int .i64 x.f0, .int .i64 x.f1, .int .i64 x.f2]
theorem reps_bk (w : World) (base : Nat) (ok : Nat → Prop) : ∀ l : List S47, Reps (k47.M w base ok) 3 l (l.flatMap bkCells)
  | [] => Reps.none _ _
  | x :: l => by
    have h1 : Reps (k47.M w base ok) 3 [x] (bkCells x) := by
      have := (Reps.none (k47.M w base ok) 3).snoc (p := x) (c := bkCells x) (k47_mkM w base ok x) rfl
      simpa using this
    exact Kd.reps_append h1 (reps_bk w base ok l)
theorem lit_bk (W : World) (l : List S47) (hl : l.length ≤ 1000) : Kd.C k47 (W.alloc (.cells (l.flatMap bkCells).toArray 47)) (some ⟨W.heap.size, 0, none⟩) l.length l := by
  have h := OwnRow.lit (e := 47) W W.heap.size (reps_bk (W.alloc (.cells (l.flatMap bkCells).toArray 47)) W.heap.size (fun k => True ∧ some k ≠ (Value.slice (some ⟨W.heap.size, 0, none⟩) l.length l.length).ownBlock) l) (Nat.le_refl _) (by omega)
  have hR : Kd.R k47 47 (W.alloc (.cells (l.flatMap bkCells).toArray 47)) W.heap.size (fun _ => True) (.slice (some ⟨W.heap.size, 0, none⟩) l.length l.length) l := ⟨fun _ _ => trivial, h⟩
  exact (Kd.R_reads' hR).2.2
theorem IntRow.R {w : World} {g : Nat} {xs : List Int} (h : IntRow w g xs) (hx : xs.length ≤ 1000) {base : Nat} (hb : base ≤ g) : Kd.R (Kd.int .i64) 3 w base (fun _ => True) (.slice (some ⟨g, 0, none⟩) xs.length xs.length) xs := by
  refine Kd.R_of_own (e := 3) ⟨by simp [encs], .inr ⟨g, xs.length, _, rfl, hb, h, Nat.le_refl _, ?_, ?_, ?_⟩⟩ (fun _ _ => trivial)
  · unfold maxLen; omega
  · simp [ints]
  · have e : (ints xs).length = xs.length * 1 := by rw [ints_length]; omega
    rw [← e]
    simp only [List.toList_toArray, List.take_length]
    rfl
theorem lit_ints (W : World) (xs : List Int) (hx : xs.length ≤ 1000) : Kd.C (Kd.int .i64) (W.alloc (.cells (ints xs).toArray 3)) (some ⟨W.heap.size, 0, none⟩) xs.length xs :=
  (Kd.R_reads' ((IntRow.mk W xs).R hx (Nat.le_refl _))).2.2
theorem ints_yes (A B : Option Addr) (c d : Nat) (xs ys : List Int) (w : World) (hx : Kd.C (Kd.int .i64) w A xs.length xs) (hy : Kd.C (Kd.int .i64) w B ys.length ys) (hc : xs.length ≤ c) (hd : ys.length ≤ d) (h : turndownlaw08_ints.f 100 xs ys = some true) :
    Calls Try.prog 32 #[.slice A xs.length c, .slice B ys.length d] w fun e w' => e = .returned (.bool true) ∧ Below w.heap.size w w' :=
  (turndownlaw08_ints.calls 100 A c xs B d ys true w hx hc hy hd h).mono fun e w' h => ⟨h.1, by obtain ⟨n, rfl⟩ := h.2; exact (pw_below_drewN (Below.refl _ _) n)⟩
abbrev awCl : Obj := .cells #[.int .i64 0, .int .i64 2, .int .i64 5, .int .i64 1, .int .i64 3, .int .i64 6, .int .i64 2, .int .i64 3, .int .i64 2] 47
abbrev awCr : Obj := .cells #[.int .i64 1, .int .i64 1, .int .i64 1] 3
theorem awl_C (w : World) : Kd.C k47 (w.alloc awCl) (some ⟨w.heap.size, 0, none⟩) 3 awL := lit_bk w awL (by decide)
theorem lit_C3 (w : World) (a b c : Int) : Kd.C (Kd.int .i64) (w.alloc (.cells #[.int .i64 a, .int .i64 b, .int .i64 c] 3)) (some ⟨w.heap.size, 0, none⟩) 3 [a, b, c] := lit_ints w [a, b, c] (by simp)
theorem lit_C2 (w : World) (a b : Int) : Kd.C (Kd.int .i64) (w.alloc (.cells #[.int .i64 a, .int .i64 b] 3)) (some ⟨w.heap.size, 0, none⟩) 2 [a, b] := lit_ints w [a, b] (by simp)
theorem aw_accept (w : World) : Calls Try.prog 30 #[.slice (some ⟨w.heap.size, 0, none⟩) 3 3, .slice (some ⟨w.heap.size + 1, 0, none⟩) 3 3] ((w.alloc awCl).alloc awCr) fun e w' => ∃ v1 v2, e = .returned (.tuple #[.agg #[v1, v2], .int .i64 7, .int .i64 0]) ∧
      w'.ownsRow (w.heap.size + 2) 3 1 v1 2 (ints [0, 2]) ∧ w'.ownsRow (w.heap.size + 2) 3 1 v2 3 (ints [0, 4, 2]) ∧ Below (w.heap.size + 2) ((w.alloc awCl).alloc awCr) w' := by
  have hi0 := lit_C3 (w.alloc awCl) 1 1 1
  rw [World.size_alloc] at hi0
  have h := Accept_c (some ⟨w.heap.size, 0, none⟩) 3 awL (some ⟨w.heap.size + 1, 0, none⟩) 3 100 awR [0, 2] [0, 4, 2] 7 ((w.alloc awCl).alloc awCr) (Kd.C_below (awl_C w) ((Below.refl _ _).alloc (Nat.le_refl _) _)) (by decide) hi0 (checkB_iff.1 awG) awF
  rw [World.size_alloc, World.size_alloc] at h
  exact h.mono fun e w' ⟨v1, v2, h1, h2, h3, _, h5⟩ => ⟨v1, v2, h1, h2, h3, h5⟩
theorem aw_quote (w : World) (A B : Option Addr) (hl : Kd.C k47 w A 3 awL) (hr : Kd.C (Kd.int .i64) w B 3 awR) : Calls Try.prog 16 #[.slice A 3 3, .slice B 3 3, .int .i64 1, .int .i64 2] w fun e w' => e = .returned (.tuple #[.int .i64 5, .int .i64 0]) ∧ Below w.heap.size w w' :=
  Quote_c A 3 awL B 3 100 awR 1 2 5 0 w hl (by decide) hr (by decide) awQ
theorem aw_assign (w : World) (ad : Addr) (hl : Kd.C k47 w (some ad) 3 awL) : Calls Try.prog 31 #[.slice (some ad) 3 3] w fun e w' => ∃ v, e = .returned (.tuple #[v, .int .i64 2, .int .i64 0]) ∧ Kd.R (Kd.int .i64) 3 w' w.heap.size (fun _ => True) v [0, 1, 0] ∧ Below w.heap.size w w' := by
  have h := Assign_yes ad 3 awL [0, 1, 2] w hl awB (by decide) (by rw [← awO]; exact sort_small awL (by decide) (by decide)) (by decide)
  rw [awA] at h
  exact h
set_option maxRecDepth 100000 in
set_option maxHeartbeats 800000 in
theorem awake_c (w : World) : Calls Try.prog 20 #[] w fun e w' => e = .returned (.bool true) ∧ Below w.heap.size w w' := by
  have HACC := Lib.hid (aw_accept w)
  have HB1 : Hid (Below w.heap.size w ((w.alloc awCl).alloc awCr)) := Lib.hid (((Below.refl _ _).alloc (Nat.le_refl _) _).alloc (by simp) _)
  have HL1 : Hid (Kd.C k47 ((w.alloc awCl).alloc awCr) (some ⟨w.heap.size, 0, none⟩) 3 awL) := Lib.hid (Kd.C_below (awl_C w) ((Below.refl _ _).alloc (Nat.le_refl _) _))
  have hsz0 : ((w.alloc awCl).alloc awCr).heap.size = w.heap.size + 2 := by simp
  have HS0 := Lib.hid hsz0
  clear hsz0
  go_enter Try.func20, Try.ntmps20
  go_wp2_with fail
  refine HACC.out.mono ?_
  rintro e w1 ⟨v1, v2, rfl, ho1, ho2, hBW⟩
  obtain ⟨X1, y1, rfl⟩ := own_slice ho1
  obtain ⟨X2, y2, rfl⟩ := own_slice ho2
  have hl2 : Kd.C k47 w1 (some ⟨w.heap.size, 0, none⟩) 3 awL := Kd.C_below HL1.out (by rw [HS0.out]; exact hBW)
  have hBx : Below w.heap.size w w1 := HB1.out.trans (hBW.mono (by omega))
  have hsz1 : w.heap.size + 2 ≤ w1.heap.size := by have := hBW.size; rw [HS0.out] at this; exact this
  have hR1 : Kd.R (Kd.int .i64) 3 w1 (w.heap.size + 2) (fun _ => True) (.slice X1 2 y1) [0, 2] := Kd.R_of_own ho1 (fun _ _ => trivial)
  have HR1 := Lib.hid hR1
  clear hR1
  have HL2 := Lib.hid hl2
  have hB2 : Below w1.heap.size w1 ((w1.alloc (.cells #[.slice X1 2 y1, .slice X2 3 y2] 39)).alloc awCr) := ((Below.refl _ _).alloc (Nat.le_refl _) _).alloc (by simp) _
  have hr2 := lit_C3 (w1.alloc (.cells #[.slice X1 2 y1, .slice X2 3 y2] 39)) 1 1 1
  rw [World.size_alloc] at hr2
  have HQ := Lib.hid (aw_quote _ (some ⟨w.heap.size, 0, none⟩) (some ⟨w1.heap.size + 1, 0, none⟩) (Kd.C_below HL2.out hB2) hr2)
  have HB2 := Lib.hid hB2
  have hs2 : ((w1.alloc (.cells #[.slice X1 2 y1, .slice X2 3 y2] 39)).alloc awCr).heap.size = w1.heap.size + 2 := by simp
  have HS2 := Lib.hid hs2
  clear ho1 ho2 hl2 hBW hB2 hr2 hs2
  go_wp2_with fail
  refine HQ.out.mono ?_
  rintro e w2 ⟨rfl, hB3⟩
  rw [HS2.out] at hB3
  have hsz2 := hB3.size
  rw [HS2.out] at hsz2
  have hB4 : Below w1.heap.size w1 w2 := HB2.out.trans (hB3.mono (by omega))
  have HA := Lib.hid (aw_assign w2 ⟨w.heap.size, 0, none⟩ (Kd.C_below HL2.out hB4))
  have HB3 := Lib.hid hB3
  have HB4 := Lib.hid hB4
  clear hB3 hB4
  go_wp2_with fail
  refine HA.out.mono ?_
  rintro e w3 ⟨v3, rfl, hR3, hB5⟩
  obtain ⟨X3, y3, rfl, hy3, hC3⟩ := Kd.R_reads hR3
  have hsz3 := hB5.size
  have hB6 : Below w1.heap.size w1 w3 := HB4.out.trans (hB5.mono (by omega))
  have hcx : w3.heap[w1.heap.size]? = some (.cells #[.slice X1 2 y1, .slice X2 3 y2] 39 (0, 0)) := by
    rw [hB5.block _ (by omega), HB3.out.block _ (by omega), Below.heap_alloc _ _ _ (by simp)]; exact heap_alloc_new _ _
  have z1 : w3.cell? ⟨w1.heap.size, 0, none⟩ = some (.slice X1 2 y1) := by simp [World.cell?, hcx]
  have hy1 := (Kd.R_reads' HR1.out).2.1
  have hB7 : Below w3.heap.size w3 (w3.alloc (.cells #[.int .i64 0, .int .i64 2] 3)) := (Below.refl _ _).alloc (Nat.le_refl _) _
  have HI := Lib.hid (ints_yes X1 (some ⟨w3.heap.size, 0, none⟩) y1 2 [0, 2] [0, 2] (w3.alloc (.cells #[.int .i64 0, .int .i64 2] 3)) (Kd.C_below (Kd.C_below (Kd.R_reads' HR1.out).2.2 hB6) hB7) (lit_C2 w3 0 2) hy1 (Nat.le_refl _) (by decide +kernel))
  have HB7 := Lib.hid hB7
  have HB6 := Lib.hid hB6
  have HC3 := Lib.hid hC3
  clear hR3 hB5 hcx hC3 hB7 hB6
  go_wp2_with fail
  refine HI.out.mono ?_
  rintro e w4 ⟨rfl, hB8⟩
  rw [World.size_alloc] at hB8
  have hsz4 := hB8.size
  rw [World.size_alloc] at hsz4
  have hB9 : Below w3.heap.size w3 w4 := HB7.out.trans (hB8.mono (by omega))
  have hB10 : Below w4.heap.size w4 (w4.alloc (.cells #[.int .i64 0, .int .i64 1, .int .i64 0] 3)) := (Below.refl _ _).alloc (Nat.le_refl _) _
  have HI2 := Lib.hid (ints_yes X3 (some ⟨w4.heap.size, 0, none⟩) y3 3 [0, 1, 0] [0, 1, 0] (w4.alloc (.cells #[.int .i64 0, .int .i64 1, .int .i64 0] 3)) (Kd.C_below (Kd.C_below HC3.out hB9) hB10) (lit_C3 w4 0 1 0) hy3 (Nat.le_refl _) (by decide +kernel))
  have HB11 := Lib.hid ((hBx.trans (HB6.out.mono (by omega))).trans (hB9.mono (by omega)))
  clear hB8 hB9 hB10 z1
  go_wp2_with fail
  refine HI2.out.mono ?_
  rintro e w5 ⟨rfl, hB12⟩
  rw [World.size_alloc] at hB12
  go_wp2_with fail
  go_ret
  exact ⟨rfl, (HB11.out.alloc (by omega) _).trans (hB12.mono (by omega))⟩
end Go.Proofs.Ytpjobcnfjpbaeaa.A

set_option linter.unusedVariables false
set_option linter.unusedSimpArgs false
namespace Go.Proofs.Ytpjobcnfjpbaeaa.PA
open Go.RowKit Go.Proofs.YtpjobcnfjpbaeaaW.PrintWords Go.Proofs.YtpjobcnfjpbaeaaW.PrintLast Go.Proofs.YtpjobcnfjpbaeaaW.PrintMore
open Go.Proofs.Ytpjobcnfjpbaeaa.A Go.Proofs.Ytpjobcnfjpbaeaa.M
def turndownlaw08_awake.f : Option Bool := some true
theorem turndownlaw08_awake.calls  (r : Bool) (w : World) (h : turndownlaw08_awake.f  = some r) :
    Calls Try.prog 20 #[] w fun e w' => e = .returned (.bool r) ∧ Below w.heap.size w w' := by
  obtain rfl := Option.some.inj h
  exact awake_c w
end Go.Proofs.Ytpjobcnfjpbaeaa.PA
