/- What the statements of this seat lean on: the functions that they reach, walked. -/
import Derived.RowKit
import Derived.Test.YtcpojohpmcnnhaaZs8
set_option linter.unusedSimpArgs false
set_option linter.unusedVariables false

namespace Go.Proofs.Ytcpojohpmcnnhaa.PA
open Go.RowKit Go.Proofs.YtcpojohpmcnnhaaW.PrintWords Go.Proofs.YtcpojohpmcnnhaaW.PrintLast Go.Proofs.YtcpojohpmcnnhaaW.PrintMore
attribute [local go_sem] max2_int min2_int max_two min_two max_three min_three max_four min_four
set_option linter.unusedVariables false
set_option linter.unusedSimpArgs false
def turndownlaw06_awake.j0 : Nat → Bool → Option (Bool)
 | 0, _ => none
 | k + 1, x80 => if x80 = true then (some false) else (some true)
def turndownlaw06_awake.f (k : Nat)  : Option (Bool) := (code_Best.f k (([1, 1, 2, 4] : List Int)) 32).bind fun bt155 => ((code_Code.f k (([2, 1, 2] : List Int))).bind fun bt163 => ((code_Card.f k (⟨#[49]⟩ : ByteArray) 7 5).bind fun bt167 => ((code_Read.f k (⟨#[49, 49, 49, 48, 49, 49, 48, 48]⟩ : ByteArray) 7 5).bind fun bt169 => ((code_Free.f 7 5).bind fun bt172 => (if bt155.2.2 = 0 then (if bt155.2.1 = 14 then (if bt163.2 = 0 then ((turndownlaw06_texts.f k bt163.1 (([(⟨#[49, 48]⟩ : ByteArray), (⟨#[48]⟩ : ByteArray), (⟨#[49, 49]⟩ : ByteArray)] : List ByteArray))).bind fun t177 => (if t177 = true then (if bt167.2 = 0 then (if bt167.1.toList = ([49, 49, 49, 48, 49, 49, 48, 48] : List UInt8) then (if bt169.2.2 = 0 then (if bt169.1.toList = ([49] : List UInt8) then (if bt169.2.1 = 0 then (if bt172.2 = 0 then (turndownlaw06_awake.j0 k (bt172.1 != 5)) else (turndownlaw06_awake.j0 k true)) else (turndownlaw06_awake.j0 k true)) else (turndownlaw06_awake.j0 k true)) else (turndownlaw06_awake.j0 k true)) else (turndownlaw06_awake.j0 k true)) else (turndownlaw06_awake.j0 k true)) else (turndownlaw06_awake.j0 k true))) else (turndownlaw06_awake.j0 k true)) else (turndownlaw06_awake.j0 k true)) else (turndownlaw06_awake.j0 k true))))))
theorem turndownlaw06_awake.mono_l : ∀ k, (∀ y0, LeO (turndownlaw06_awake.j0 k y0) (turndownlaw06_awake.j0 (k + 1) y0))
 | 0 => fun _ r h => by simp [turndownlaw06_awake.j0] at h
 | k + 1 => by
  have ih0 := turndownlaw06_awake.mono_l k
  ·
   intro y0
   unfold turndownlaw06_awake.j0
   repeat' first
   | (with_reducible exact ih0 _)
   | (with_reducible exact code_Best.mono _ _ _)
   | (with_reducible exact code_Card.mono _ _ _ _)
   | (with_reducible exact code_Code.mono _ _)
   | (with_reducible exact code_Read.mono _ _ _ _)
   | (with_reducible exact turndownlaw06_texts.mono _ _ _)
   | (with_reducible exact LeO.refl _)
   | (with_reducible exact LeO.none _)
   | (with_reducible refine LeO.ite ?_ ?_)
   | (with_reducible refine LeO.bind ?_ (fun _ => ?_))
   | exact ih0 _
   | exact code_Best.mono _ _ _
   | exact code_Card.mono _ _ _ _
   | exact code_Code.mono _ _
   | exact code_Read.mono _ _ _ _
   | exact turndownlaw06_texts.mono _ _ _
   | exact LeO.none _
   | refine LeO.ite ?_ ?_
   | refine LeO.bind ?_ (fun _ => ?_)
theorem turndownlaw06_awake.mono : ∀ k, LeO (turndownlaw06_awake.f k ) (turndownlaw06_awake.f (k + 1) ) := by
 intro  k
 have ih0 := turndownlaw06_awake.mono_l k
 unfold turndownlaw06_awake.f
 repeat' first
   | (with_reducible exact ih0 _)
   | (with_reducible exact code_Best.mono _ _ _)
   | (with_reducible exact code_Card.mono _ _ _ _)
   | (with_reducible exact code_Code.mono _ _)
   | (with_reducible exact code_Read.mono _ _ _ _)
   | (with_reducible exact turndownlaw06_texts.mono _ _ _)
   | (with_reducible exact LeO.refl _)
   | (with_reducible exact LeO.none _)
   | (with_reducible refine LeO.ite ?_ ?_)
   | (with_reducible refine LeO.bind ?_ (fun _ => ?_))
   | exact ih0 _
   | exact code_Best.mono _ _ _
   | exact code_Card.mono _ _ _ _
   | exact code_Code.mono _ _
   | exact code_Read.mono _ _ _ _
   | exact turndownlaw06_texts.mono _ _ _
   | exact LeO.none _
   | refine LeO.ite ?_ ?_
   | refine LeO.bind ?_ (fun _ => ?_)
set_option maxHeartbeats 8000000 in
set_option maxRecDepth 100000 in
theorem turndownlaw06_awake.calls (k : Nat)  (r : Bool) (w : World) (h : turndownlaw06_awake.f k  = some r) :
  Calls Try.prog 22 #[] w fun e w' => e = .returned (.bool r) ∧ Below w.heap.size w w' := by
 have HB := Aside0.mk (Below.refl w.heap.size w)
 have H : ((code_Best.f k (([1, 1, 2, 4] : List Int)) 32).bind fun bt155 => ((code_Code.f k (([2, 1, 2] : List Int))).bind fun bt163 => ((code_Card.f k (⟨#[49]⟩ : ByteArray) 7 5).bind fun bt167 => ((code_Read.f k (⟨#[49, 49, 49, 48, 49, 49, 48, 48]⟩ : ByteArray) 7 5).bind fun bt169 => ((code_Free.f 7 5).bind fun bt172 => (if bt155.2.2 = 0 then (if bt155.2.1 = 14 then (if bt163.2 = 0 then ((turndownlaw06_texts.f k bt163.1 (([(⟨#[49, 48]⟩ : ByteArray), (⟨#[48]⟩ : ByteArray), (⟨#[49, 49]⟩ : ByteArray)] : List ByteArray))).bind fun t177 => (if t177 = true then (if bt167.2 = 0 then (if bt167.1.toList = ([49, 49, 49, 48, 49, 49, 48, 48] : List UInt8) then (if bt169.2.2 = 0 then (if bt169.1.toList = ([49] : List UInt8) then (if bt169.2.1 = 0 then (if bt172.2 = 0 then (turndownlaw06_awake.j0 k (bt172.1 != 5)) else (turndownlaw06_awake.j0 k true)) else (turndownlaw06_awake.j0 k true)) else (turndownlaw06_awake.j0 k true)) else (turndownlaw06_awake.j0 k true)) else (turndownlaw06_awake.j0 k true)) else (turndownlaw06_awake.j0 k true)) else (turndownlaw06_awake.j0 k true))) else (turndownlaw06_awake.j0 k true)) else (turndownlaw06_awake.j0 k true)) else (turndownlaw06_awake.j0 k true))))))) = some r := h
 clear h
 obtain ⟨y152, hy152⟩ : ∃ y_ : List Int, y_ = (([1, 1, 2, 4] : List Int)) := ⟨_, rfl⟩
 replace H : ((code_Best.f k y152 32).bind fun bt155 => ((code_Code.f k (([2, 1, 2] : List Int))).bind fun bt163 => ((code_Card.f k (⟨#[49]⟩ : ByteArray) 7 5).bind fun bt167 => ((code_Read.f k (⟨#[49, 49, 49, 48, 49, 49, 48, 48]⟩ : ByteArray) 7 5).bind fun bt169 => ((code_Free.f 7 5).bind fun bt172 => (if bt155.2.2 = 0 then (if bt155.2.1 = 14 then (if bt163.2 = 0 then ((turndownlaw06_texts.f k bt163.1 (([(⟨#[49, 48]⟩ : ByteArray), (⟨#[48]⟩ : ByteArray), (⟨#[49, 49]⟩ : ByteArray)] : List ByteArray))).bind fun t177 => (if t177 = true then (if bt167.2 = 0 then (if bt167.1.toList = ([49, 49, 49, 48, 49, 49, 48, 48] : List UInt8) then (if bt169.2.2 = 0 then (if bt169.1.toList = ([49] : List UInt8) then (if bt169.2.1 = 0 then (if bt172.2 = 0 then (turndownlaw06_awake.j0 k (bt172.1 != 5)) else (turndownlaw06_awake.j0 k true)) else (turndownlaw06_awake.j0 k true)) else (turndownlaw06_awake.j0 k true)) else (turndownlaw06_awake.j0 k true)) else (turndownlaw06_awake.j0 k true)) else (turndownlaw06_awake.j0 k true)) else (turndownlaw06_awake.j0 k true))) else (turndownlaw06_awake.j0 k true)) else (turndownlaw06_awake.j0 k true)) else (turndownlaw06_awake.j0 k true))))))) = some r := by first | (rw [hy152]; with_reducible exact H) | (have H2_ := (Option.bind_some _ _).symm.trans H; rw [hy152]; with_reducible exact H2_) | (have H2_ := (Option.bind_some _ _).symm.trans H; with_reducible exact H2_) | with_reducible exact H | (rw [hy152]; exact H) | exact H
 have Ny152 := Aside0.mk hy152
 clear hy152
 replace H := Option.bind_eq_some_iff.mp H
 obtain ⟨⟨t155, t156, t157⟩, A10, H⟩ := H
 replace H : ((code_Code.f k (([2, 1, 2] : List Int))).bind fun bt163 => ((code_Card.f k (⟨#[49]⟩ : ByteArray) 7 5).bind fun bt167 => ((code_Read.f k (⟨#[49, 49, 49, 48, 49, 49, 48, 48]⟩ : ByteArray) 7 5).bind fun bt169 => ((code_Free.f 7 5).bind fun bt172 => (if t157 = 0 then (if t156 = 14 then (if bt163.2 = 0 then ((turndownlaw06_texts.f k bt163.1 (([(⟨#[49, 48]⟩ : ByteArray), (⟨#[48]⟩ : ByteArray), (⟨#[49, 49]⟩ : ByteArray)] : List ByteArray))).bind fun t177 => (if t177 = true then (if bt167.2 = 0 then (if bt167.1.toList = ([49, 49, 49, 48, 49, 49, 48, 48] : List UInt8) then (if bt169.2.2 = 0 then (if bt169.1.toList = ([49] : List UInt8) then (if bt169.2.1 = 0 then (if bt172.2 = 0 then (turndownlaw06_awake.j0 k (bt172.1 != 5)) else (turndownlaw06_awake.j0 k true)) else (turndownlaw06_awake.j0 k true)) else (turndownlaw06_awake.j0 k true)) else (turndownlaw06_awake.j0 k true)) else (turndownlaw06_awake.j0 k true)) else (turndownlaw06_awake.j0 k true)) else (turndownlaw06_awake.j0 k true))) else (turndownlaw06_awake.j0 k true)) else (turndownlaw06_awake.j0 k true)) else (turndownlaw06_awake.j0 k true)))))) = some r := H
 have A1 := Aside0.mk A10
 clear A10
 obtain ⟨y160, hy160⟩ : ∃ y_ : List Int, y_ = (([2, 1, 2] : List Int)) := ⟨_, rfl⟩
 replace H : ((code_Code.f k y160).bind fun bt163 => ((code_Card.f k (⟨#[49]⟩ : ByteArray) 7 5).bind fun bt167 => ((code_Read.f k (⟨#[49, 49, 49, 48, 49, 49, 48, 48]⟩ : ByteArray) 7 5).bind fun bt169 => ((code_Free.f 7 5).bind fun bt172 => (if t157 = 0 then (if t156 = 14 then (if bt163.2 = 0 then ((turndownlaw06_texts.f k bt163.1 (([(⟨#[49, 48]⟩ : ByteArray), (⟨#[48]⟩ : ByteArray), (⟨#[49, 49]⟩ : ByteArray)] : List ByteArray))).bind fun t177 => (if t177 = true then (if bt167.2 = 0 then (if bt167.1.toList = ([49, 49, 49, 48, 49, 49, 48, 48] : List UInt8) then (if bt169.2.2 = 0 then (if bt169.1.toList = ([49] : List UInt8) then (if bt169.2.1 = 0 then (if bt172.2 = 0 then (turndownlaw06_awake.j0 k (bt172.1 != 5)) else (turndownlaw06_awake.j0 k true)) else (turndownlaw06_awake.j0 k true)) else (turndownlaw06_awake.j0 k true)) else (turndownlaw06_awake.j0 k true)) else (turndownlaw06_awake.j0 k true)) else (turndownlaw06_awake.j0 k true)) else (turndownlaw06_awake.j0 k true))) else (turndownlaw06_awake.j0 k true)) else (turndownlaw06_awake.j0 k true)) else (turndownlaw06_awake.j0 k true)))))) = some r := by first | (rw [hy160]; with_reducible exact H) | (have H2_ := (Option.bind_some _ _).symm.trans H; rw [hy160]; with_reducible exact H2_) | (have H2_ := (Option.bind_some _ _).symm.trans H; with_reducible exact H2_) | with_reducible exact H | (rw [hy160]; exact H) | exact H
 have Ny160 := Aside0.mk hy160
 clear hy160
 replace H := Option.bind_eq_some_iff.mp H
 obtain ⟨⟨t163, t164⟩, A20, H⟩ := H
 replace H : ((code_Card.f k (⟨#[49]⟩ : ByteArray) 7 5).bind fun bt167 => ((code_Read.f k (⟨#[49, 49, 49, 48, 49, 49, 48, 48]⟩ : ByteArray) 7 5).bind fun bt169 => ((code_Free.f 7 5).bind fun bt172 => (if t157 = 0 then (if t156 = 14 then (if t164 = 0 then ((turndownlaw06_texts.f k t163 (([(⟨#[49, 48]⟩ : ByteArray), (⟨#[48]⟩ : ByteArray), (⟨#[49, 49]⟩ : ByteArray)] : List ByteArray))).bind fun t177 => (if t177 = true then (if bt167.2 = 0 then (if bt167.1.toList = ([49, 49, 49, 48, 49, 49, 48, 48] : List UInt8) then (if bt169.2.2 = 0 then (if bt169.1.toList = ([49] : List UInt8) then (if bt169.2.1 = 0 then (if bt172.2 = 0 then (turndownlaw06_awake.j0 k (bt172.1 != 5)) else (turndownlaw06_awake.j0 k true)) else (turndownlaw06_awake.j0 k true)) else (turndownlaw06_awake.j0 k true)) else (turndownlaw06_awake.j0 k true)) else (turndownlaw06_awake.j0 k true)) else (turndownlaw06_awake.j0 k true)) else (turndownlaw06_awake.j0 k true))) else (turndownlaw06_awake.j0 k true)) else (turndownlaw06_awake.j0 k true)) else (turndownlaw06_awake.j0 k true))))) = some r := H
 have A2 := Aside0.mk A20
 clear A20
 replace H := Option.bind_eq_some_iff.mp H
 obtain ⟨⟨t167, t168⟩, A30, H⟩ := H
 replace H : ((code_Read.f k (⟨#[49, 49, 49, 48, 49, 49, 48, 48]⟩ : ByteArray) 7 5).bind fun bt169 => ((code_Free.f 7 5).bind fun bt172 => (if t157 = 0 then (if t156 = 14 then (if t164 = 0 then ((turndownlaw06_texts.f k t163 (([(⟨#[49, 48]⟩ : ByteArray), (⟨#[48]⟩ : ByteArray), (⟨#[49, 49]⟩ : ByteArray)] : List ByteArray))).bind fun t177 => (if t177 = true then (if t168 = 0 then (if t167.toList = ([49, 49, 49, 48, 49, 49, 48, 48] : List UInt8) then (if bt169.2.2 = 0 then (if bt169.1.toList = ([49] : List UInt8) then (if bt169.2.1 = 0 then (if bt172.2 = 0 then (turndownlaw06_awake.j0 k (bt172.1 != 5)) else (turndownlaw06_awake.j0 k true)) else (turndownlaw06_awake.j0 k true)) else (turndownlaw06_awake.j0 k true)) else (turndownlaw06_awake.j0 k true)) else (turndownlaw06_awake.j0 k true)) else (turndownlaw06_awake.j0 k true)) else (turndownlaw06_awake.j0 k true))) else (turndownlaw06_awake.j0 k true)) else (turndownlaw06_awake.j0 k true)) else (turndownlaw06_awake.j0 k true)))) = some r := H
 have A3 := Aside0.mk A30
 clear A30
 replace H := Option.bind_eq_some_iff.mp H
 obtain ⟨⟨t169, t170, t171⟩, A40, H⟩ := H
 replace H : ((code_Free.f 7 5).bind fun bt172 => (if t157 = 0 then (if t156 = 14 then (if t164 = 0 then ((turndownlaw06_texts.f k t163 (([(⟨#[49, 48]⟩ : ByteArray), (⟨#[48]⟩ : ByteArray), (⟨#[49, 49]⟩ : ByteArray)] : List ByteArray))).bind fun t177 => (if t177 = true then (if t168 = 0 then (if t167.toList = ([49, 49, 49, 48, 49, 49, 48, 48] : List UInt8) then (if t171 = 0 then (if t169.toList = ([49] : List UInt8) then (if t170 = 0 then (if bt172.2 = 0 then (turndownlaw06_awake.j0 k (bt172.1 != 5)) else (turndownlaw06_awake.j0 k true)) else (turndownlaw06_awake.j0 k true)) else (turndownlaw06_awake.j0 k true)) else (turndownlaw06_awake.j0 k true)) else (turndownlaw06_awake.j0 k true)) else (turndownlaw06_awake.j0 k true)) else (turndownlaw06_awake.j0 k true))) else (turndownlaw06_awake.j0 k true)) else (turndownlaw06_awake.j0 k true)) else (turndownlaw06_awake.j0 k true))) = some r := H
 have A4 := Aside0.mk A40
 clear A40
 replace H := Option.bind_eq_some_iff.mp H
 obtain ⟨⟨t172, t173⟩, A50, H⟩ := H
 replace H : (if t157 = 0 then (if t156 = 14 then (if t164 = 0 then ((turndownlaw06_texts.f k t163 (([(⟨#[49, 48]⟩ : ByteArray), (⟨#[48]⟩ : ByteArray), (⟨#[49, 49]⟩ : ByteArray)] : List ByteArray))).bind fun t177 => (if t177 = true then (if t168 = 0 then (if t167.toList = ([49, 49, 49, 48, 49, 49, 48, 48] : List UInt8) then (if t171 = 0 then (if t169.toList = ([49] : List UInt8) then (if t170 = 0 then (if t173 = 0 then (turndownlaw06_awake.j0 k (t172 != 5)) else (turndownlaw06_awake.j0 k true)) else (turndownlaw06_awake.j0 k true)) else (turndownlaw06_awake.j0 k true)) else (turndownlaw06_awake.j0 k true)) else (turndownlaw06_awake.j0 k true)) else (turndownlaw06_awake.j0 k true)) else (turndownlaw06_awake.j0 k true))) else (turndownlaw06_awake.j0 k true)) else (turndownlaw06_awake.j0 k true)) else (turndownlaw06_awake.j0 k true)) = some r := H
 have A5 := Aside0.mk A50
 clear A50
 have HC6 := Aside0.mk H
 clear H
 go_enter Try.func22, Try.ntmps22
 go_upto_region 6 with (first | ((with_reducible refine gate_dst (N := 14) rfl ?_); (try (refine gate_guard (by rfl) ?_; dsimp only)); refine Kd.R_lit (Kd.int .i64) _ 3 ?hg (N := 14) ?hd (xs := ([1, 1, 2, 4] : List Int)) (inner := [.int .i64 1, .int .i64 1, .int .i64 2, .int .i64 4]) (ok := fun _ => True) (okp := fun _ => True) ?hr ?hp (fun _ hk => hk) trivial (Below.refl _ _) (Nat.le_refl _) (by simp) ?_; (case hd => rfl); (case hg => rfl); (case hr => first | (go_simp; done) | (go_simp; rfl)); (case hp => exact (Reps.one (show Kd.M (Kd.int .i64) _ _ _ 1 [.int .i64 1] from rfl) (Reps.one (show Kd.M (Kd.int .i64) _ _ _ 1 [.int .i64 1] from rfl) (Reps.one (show Kd.M (Kd.int .i64) _ _ _ 2 [.int .i64 2] from rfl) (Reps.one (show Kd.M (Kd.int .i64) _ _ _ 4 [.int .i64 4] from rfl) (Reps.none _ _)))))); intro v153 w7 ho8 hb hg_ hnew_; clear hg_ hnew_; (first | rw [← Ny152.out] at ho8 | (simp only [Int.reduceToNat] at ho8; rw [← Ny152.out] at ho8)); have n0_ := Aside0.mk (Kd.R_lower ho8 (below_size (by repeat (first | (with_reducible first | exact HB.out | apply below_alloc | apply pw_below_drewN | apply below_drew1) | exact HB.out)))); have n1_ := Aside0.mk (below_step (by repeat (first | (with_reducible first | exact HB.out | apply below_alloc | apply pw_below_drewN | apply below_drew1) | exact HB.out)) hb); clear HB; have HO154 := n0_; have HB := n1_; clear n0_ n1_; clear hb ho8; obtain ⟨Ao9, co9, eo9⟩ := Kd.R_slice HO154.out; subst eo9) | ((with_reducible refine gate_callee (f := 20) rfl ?_); refine goesL_ (some 15) rfl rfl Try.func20 (by kernel_rfl) rfl #[.slice Ao9 y152.length co9, .int .i64 32] rfl (by (try simp only [List.map_toArray, List.map_cons, List.map_nil]); first | done | rfl | (simp only [List.length_drop, List.length_take]; rfl)) ?_; (with_reducible refine (code_Best.calls k _ _ y152 32 t155 t156 t157 _ ?side1 ?side2 A1.out).mono ?_); (case side1 => repeat (first | exact (Kd.R_reads' HO154.out).2.2 | (with_reducible refine Kd.C_alloc ?_ _) | (with_reducible refine Kd.C_drewN ?_ _) | (with_reducible refine Kd.C_drew ?_))); (case side2 => exact (Kd.R_reads' HO154.out).2.1); rintro e w10 ⟨v158, rfl, ho0, hb⟩; refine ⟨_, rfl, ?_⟩; have n0_ := Aside0.mk (Kd.R_elder' (by (with_reducible repeat (first | apply Kd.R_alloc | apply Kd.R_drewN | apply Kd.R_drew)); exact HO154.out) (Kd.R_base ho0) hb); have n1_ := Aside0.mk (Kd.R_lower (Kd.R_new' ho0 (Kd.R_lt (by (with_reducible repeat (first | apply Kd.R_alloc | apply Kd.R_drewN | apply Kd.R_drew)); exact HO154.out))) (below_size (by repeat (first | (with_reducible first | exact HB.out | apply below_alloc | apply pw_below_drewN | apply below_drew1) | exact HB.out)))); have n2_ := Aside0.mk (below_step (by repeat (first | (with_reducible first | exact HB.out | apply below_alloc | apply pw_below_drewN | apply below_drew1) | exact HB.out)) hb); clear HO154; clear HB; have HO154 := n0_; have HO159 := n1_; have HB := n2_; clear n0_ n1_ n2_; (try clear hb); (try clear hb2); (try clear hk); (try clear hi); (try clear ho0)) | ((with_reducible refine gate_dst (N := 20) rfl ?_); (try (refine gate_guard (by rfl) ?_; dsimp only)); refine Kd.R_lit (Kd.int .i64) _ 3 ?hg (N := 20) ?hd (xs := ([2, 1, 2] : List Int)) (inner := [.int .i64 2, .int .i64 1, .int .i64 2]) (ok := fun _ => True) (okp := fun _ => True) ?hr ?hp (fun _ hk => hk) trivial (Below.refl _ _) (Nat.le_refl _) (by simp) ?_; (case hd => rfl); (case hg => rfl); (case hr => first | (go_simp; done) | (go_simp; rfl)); (case hp => exact (Reps.one (show Kd.M (Kd.int .i64) _ _ _ 2 [.int .i64 2] from rfl) (Reps.one (show Kd.M (Kd.int .i64) _ _ _ 1 [.int .i64 1] from rfl) (Reps.one (show Kd.M (Kd.int .i64) _ _ _ 2 [.int .i64 2] from rfl) (Reps.none _ _))))); intro v161 w11 ho12 hb hg_ hnew_; clear hg_ hnew_; (first | rw [← Ny160.out] at ho12 | (simp only [Int.reduceToNat] at ho12; rw [← Ny160.out] at ho12)); have n0_ := Aside0.mk (Kd.R_elder' (by (with_reducible repeat (first | apply Kd.R_alloc | apply Kd.R_drewN | apply Kd.R_drew)); exact HO154.out) (Kd.R_base ho12) hb); have n1_ := Aside0.mk (Kd.R_elder' (by (with_reducible repeat (first | apply Kd.R_alloc | apply Kd.R_drewN | apply Kd.R_drew)); exact HO159.out) (Kd.R_base ho12) hb); have n2_ := Aside0.mk (Kd.R_lower (Kd.R_new' (Kd.R_new' ho12 (Kd.R_lt (by (with_reducible repeat (first | apply Kd.R_alloc | apply Kd.R_drewN | apply Kd.R_drew)); exact HO154.out))) (Kd.R_lt (by (with_reducible repeat (first | apply Kd.R_alloc | apply Kd.R_drewN | apply Kd.R_drew)); exact HO159.out))) (below_size (by repeat (first | (with_reducible first | exact HB.out | apply below_alloc | apply pw_below_drewN | apply below_drew1) | exact HB.out)))); have n3_ := Aside0.mk (below_step (by repeat (first | (with_reducible first | exact HB.out | apply below_alloc | apply pw_below_drewN | apply below_drew1) | exact HB.out)) hb); clear HO154; clear HO159; clear HB; have HO154 := n0_; have HO159 := n1_; have HO162 := n2_; have HB := n3_; clear n0_ n1_ n2_ n3_; clear hb ho12; obtain ⟨Ao13, co13, eo13⟩ := Kd.R_slice HO162.out; subst eo13) | ((with_reducible refine gate_callee (f := 27) rfl ?_); refine goesL_ (some 21) rfl rfl Try.func27 (by kernel_rfl) rfl #[.slice Ao13 y160.length co13] rfl (by (try simp only [List.map_toArray, List.map_cons, List.map_nil]); first | done | rfl | (simp only [List.length_drop, List.length_take]; rfl)) ?_; (with_reducible refine (code_Code.calls k _ _ y160 t163 t164 _ ?side1 ?side2 A2.out).mono ?_); (case side1 => repeat (first | exact (Kd.R_reads' HO162.out).2.2 | (with_reducible refine Kd.C_alloc ?_ _) | (with_reducible refine Kd.C_drewN ?_ _) | (with_reducible refine Kd.C_drew ?_))); (case side2 => exact (Kd.R_reads' HO162.out).2.1); rintro e w14 ⟨v165, rfl, ho0, hb⟩; refine ⟨_, rfl, ?_⟩; have n0_ := Aside0.mk (Kd.R_below (by (with_reducible repeat (first | apply Kd.R_alloc | apply Kd.R_drewN | apply Kd.R_drew)); exact HO154.out) hb); have n1_ := Aside0.mk (Kd.R_below (by (with_reducible repeat (first | apply Kd.R_alloc | apply Kd.R_drewN | apply Kd.R_drew)); exact HO159.out) hb); have n2_ := Aside0.mk (Kd.R_below (by (with_reducible repeat (first | apply Kd.R_alloc | apply Kd.R_drewN | apply Kd.R_drew)); exact HO162.out) hb); have n3_ := Aside0.mk (Kd.R_lower ho0 (below_size (by repeat (first | (with_reducible first | exact HB.out | apply below_alloc | apply pw_below_drewN | apply below_drew1) | exact HB.out)))); have n4_ := Aside0.mk (below_step (by repeat (first | (with_reducible first | exact HB.out | apply below_alloc | apply pw_below_drewN | apply below_drew1) | exact HB.out)) hb); clear HO154; clear HO159; clear HO162; clear HB; have HO154 := n0_; have HO159 := n1_; have HO162 := n2_; have HO166 := n3_; have HB := n4_; clear n0_ n1_ n2_ n3_ n4_; (try clear hb); (try clear hb2); (try clear hk); (try clear hi); (try clear ho0)) | ((with_reducible refine gate_callee (f := 30) rfl ?_); refine goesL_ (some 25) rfl rfl Try.func30 (by kernel_rfl) rfl #[.string (⟨#[49]⟩ : ByteArray), .int .i64 7, .int .i64 5] rfl (by (try simp only [List.map_toArray, List.map_cons, List.map_nil]); first | done | rfl | (simp only [List.length_drop, List.length_take]; rfl)) ?_; (with_reducible refine (code_Card.calls k (⟨#[49]⟩ : ByteArray) 7 5 t167 t168 _ A3.out).mono ?_); rintro e w15 ⟨rfl, hb⟩; refine ⟨_, rfl, ?_⟩; have n0_ := Aside0.mk (Kd.R_below (by (with_reducible repeat (first | apply Kd.R_alloc | apply Kd.R_drewN | apply Kd.R_drew)); exact HO154.out) hb); have n1_ := Aside0.mk (Kd.R_below (by (with_reducible repeat (first | apply Kd.R_alloc | apply Kd.R_drewN | apply Kd.R_drew)); exact HO159.out) hb); have n2_ := Aside0.mk (Kd.R_below (by (with_reducible repeat (first | apply Kd.R_alloc | apply Kd.R_drewN | apply Kd.R_drew)); exact HO162.out) hb); have n3_ := Aside0.mk (Kd.R_below (by (with_reducible repeat (first | apply Kd.R_alloc | apply Kd.R_drewN | apply Kd.R_drew)); exact HO166.out) hb); have n4_ := Aside0.mk (below_step (by repeat (first | (with_reducible first | exact HB.out | apply below_alloc | apply pw_below_drewN | apply below_drew1) | exact HB.out)) hb); clear HO154; clear HO159; clear HO162; clear HO166; clear HB; have HO154 := n0_; have HO159 := n1_; have HO162 := n2_; have HO166 := n3_; have HB := n4_; clear n0_ n1_ n2_ n3_ n4_; (try clear hb); (try clear hb2); (try clear hk); (try clear hi)) | ((with_reducible refine gate_callee (f := 34) rfl ?_); refine goesL_ (some 29) rfl rfl Try.func34 (by kernel_rfl) rfl #[.string (⟨#[49, 49, 49, 48, 49, 49, 48, 48]⟩ : ByteArray), .int .i64 7, .int .i64 5] rfl (by (try simp only [List.map_toArray, List.map_cons, List.map_nil]); first | done | rfl | (simp only [List.length_drop, List.length_take]; rfl)) ?_; (with_reducible refine (code_Read.calls k (⟨#[49, 49, 49, 48, 49, 49, 48, 48]⟩ : ByteArray) 7 5 t169 t170 t171 _ A4.out).mono ?_); rintro e w16 ⟨rfl, hb⟩; refine ⟨_, rfl, ?_⟩; have n0_ := Aside0.mk (Kd.R_below (by (with_reducible repeat (first | apply Kd.R_alloc | apply Kd.R_drewN | apply Kd.R_drew)); exact HO154.out) hb); have n1_ := Aside0.mk (Kd.R_below (by (with_reducible repeat (first | apply Kd.R_alloc | apply Kd.R_drewN | apply Kd.R_drew)); exact HO159.out) hb); have n2_ := Aside0.mk (Kd.R_below (by (with_reducible repeat (first | apply Kd.R_alloc | apply Kd.R_drewN | apply Kd.R_drew)); exact HO162.out) hb); have n3_ := Aside0.mk (Kd.R_below (by (with_reducible repeat (first | apply Kd.R_alloc | apply Kd.R_drewN | apply Kd.R_drew)); exact HO166.out) hb); have n4_ := Aside0.mk (below_step (by repeat (first | (with_reducible first | exact HB.out | apply below_alloc | apply pw_below_drewN | apply below_drew1) | exact HB.out)) hb); clear HO154; clear HO159; clear HO162; clear HO166; clear HB; have HO154 := n0_; have HO159 := n1_; have HO162 := n2_; have HO166 := n3_; have HB := n4_; clear n0_ n1_ n2_ n3_ n4_; (try clear hb); (try clear hb2); (try clear hk); (try clear hi)) | ((with_reducible refine gate_callee (f := 36) rfl ?_); refine goesL_ (some 34) rfl rfl Try.func36 (by kernel_rfl) rfl #[.int .i64 7, .int .i64 5] rfl (by (try simp only [List.map_toArray, List.map_cons, List.map_nil]); first | done | rfl | (simp only [List.length_drop, List.length_take]; rfl)) ?_; (with_reducible refine (code_Free.calls 7 5 t172 t173 _ A5.out).mono ?_); rintro e w17 ⟨rfl, hb⟩; refine ⟨_, rfl, ?_⟩; have n0_ := Aside0.mk (Kd.R_below (by (with_reducible repeat (first | apply Kd.R_alloc | apply Kd.R_drewN | apply Kd.R_drew)); exact HO154.out) hb); have n1_ := Aside0.mk (Kd.R_below (by (with_reducible repeat (first | apply Kd.R_alloc | apply Kd.R_drewN | apply Kd.R_drew)); exact HO159.out) hb); have n2_ := Aside0.mk (Kd.R_below (by (with_reducible repeat (first | apply Kd.R_alloc | apply Kd.R_drewN | apply Kd.R_drew)); exact HO162.out) hb); have n3_ := Aside0.mk (Kd.R_below (by (with_reducible repeat (first | apply Kd.R_alloc | apply Kd.R_drewN | apply Kd.R_drew)); exact HO166.out) hb); have n4_ := Aside0.mk (below_step (by repeat (first | (with_reducible first | exact HB.out | apply below_alloc | apply pw_below_drewN | apply below_drew1) | exact HB.out)) hb); clear HO154; clear HO159; clear HO162; clear HO166; clear HB; have HO154 := n0_; have HO159 := n1_; have HO162 := n2_; have HO166 := n3_; have HB := n4_; clear n0_ n1_ n2_ n3_ n4_; (try clear hb); (try clear hb2); (try clear hk); (try clear hi)))
 (try simp only [Act.put, List.setIfInBounds_toArray, List.set_cons_zero, List.set_cons_succ])
 go_cut [80] (fun v80 wc => ∃ (kq : Nat) (x80_5 : Bool), v80 = .bool x80_5 ∧ Aside0 (turndownlaw06_awake.j0 kq x80_5 = some r) ∧ Aside0 (kq ≤ k) ∧ Aside0 (Below w.heap.size w wc))
 case first =>
  have H := HC6.out
  clear HC6
  by_cases c18 : t157 = 0
  ·
   rw [if_pos c18] at H
   have c18b0 : (t157 == 0) = true := beq_iff_eq.mpr c18
   have c18b1 : (t157 != 0) = false := bne_eq_false_iff_eq.mpr c18
   clear c18
   (first | rw [c18b0] | (simp only [i64_w, i32_w]; rw [c18b0]) | skip)
   by_cases c19 : t156 = 14
   ·
    rw [if_pos c19] at H
    have c19b0 : (t156 == 14) = true := beq_iff_eq.mpr c19
    have c19b1 : (t156 != 14) = false := bne_eq_false_iff_eq.mpr c19
    clear c19
    by_cases c20 : t164 = 0
    ·
     rw [if_pos c20] at H
     have c20b0 : (t164 == 0) = true := beq_iff_eq.mpr c20
     have c20b1 : (t164 != 0) = false := bne_eq_false_iff_eq.mpr c20
     clear c20
     obtain ⟨y174, hy174⟩ : ∃ y_ : List ByteArray, y_ = (([(⟨#[49, 48]⟩ : ByteArray), (⟨#[48]⟩ : ByteArray), (⟨#[49, 49]⟩ : ByteArray)] : List ByteArray)) := ⟨_, rfl⟩
     replace H : ((turndownlaw06_texts.f k t163 y174).bind fun t177 => (if t177 = true then (if t168 = 0 then (if t167.toList = ([49, 49, 49, 48, 49, 49, 48, 48] : List UInt8) then (if t171 = 0 then (if t169.toList = ([49] : List UInt8) then (if t170 = 0 then (if t173 = 0 then (turndownlaw06_awake.j0 k (t172 != 5)) else (turndownlaw06_awake.j0 k true)) else (turndownlaw06_awake.j0 k true)) else (turndownlaw06_awake.j0 k true)) else (turndownlaw06_awake.j0 k true)) else (turndownlaw06_awake.j0 k true)) else (turndownlaw06_awake.j0 k true)) else (turndownlaw06_awake.j0 k true))) = some r := by first | (rw [hy174]; with_reducible exact H) | (have H2_ := (Option.bind_some _ _).symm.trans H; rw [hy174]; with_reducible exact H2_) | (have H2_ := (Option.bind_some _ _).symm.trans H; with_reducible exact H2_) | with_reducible exact H | (rw [hy174]; exact H) | exact H
     have Ny174 := Aside0.mk hy174
     clear hy174
     replace H := Option.bind_eq_some_iff.mp H
     obtain ⟨t177, A210, H⟩ := H
     replace H : (if t177 = true then (if t168 = 0 then (if t167.toList = ([49, 49, 49, 48, 49, 49, 48, 48] : List UInt8) then (if t171 = 0 then (if t169.toList = ([49] : List UInt8) then (if t170 = 0 then (if t173 = 0 then (turndownlaw06_awake.j0 k (t172 != 5)) else (turndownlaw06_awake.j0 k true)) else (turndownlaw06_awake.j0 k true)) else (turndownlaw06_awake.j0 k true)) else (turndownlaw06_awake.j0 k true)) else (turndownlaw06_awake.j0 k true)) else (turndownlaw06_awake.j0 k true)) else (turndownlaw06_awake.j0 k true)) = some r := H
     have A21 := Aside0.mk A210
     clear A210
     by_cases c22 : t177 = true
     ·
      subst c22
      have H1 : (if t168 = 0 then (if t167.toList = ([49, 49, 49, 48, 49, 49, 48, 48] : List UInt8) then (if t171 = 0 then (if t169.toList = ([49] : List UInt8) then (if t170 = 0 then (if t173 = 0 then (turndownlaw06_awake.j0 k (t172 != 5)) else (turndownlaw06_awake.j0 k true)) else (turndownlaw06_awake.j0 k true)) else (turndownlaw06_awake.j0 k true)) else (turndownlaw06_awake.j0 k true)) else (turndownlaw06_awake.j0 k true)) else (turndownlaw06_awake.j0 k true)) = some r := by rw [if_pos rfl] at H; exact H
      clear H
      have H := H1
      clear H1
      by_cases c23 : t168 = 0
      ·
       rw [if_pos c23] at H
       have c23b0 : (t168 == 0) = true := beq_iff_eq.mpr c23
       have c23b1 : (t168 != 0) = false := bne_eq_false_iff_eq.mpr c23
       clear c23
       by_cases c24 : t167.toList = ([49, 49, 49, 48, 49, 49, 48, 48] : List UInt8)
       ·
        rw [if_pos c24] at H
        have c24b0 : (t167.toList == ([49, 49, 49, 48, 49, 49, 48, 48] : List UInt8)) = true := beq_iff_eq.mpr c24
        have c24b1 : (t167.toList != ([49, 49, 49, 48, 49, 49, 48, 48] : List UInt8)) = false := bne_eq_false_iff_eq.mpr c24
        clear c24
        by_cases c25 : t171 = 0
        ·
         rw [if_pos c25] at H
         have c25b0 : (t171 == 0) = true := beq_iff_eq.mpr c25
         have c25b1 : (t171 != 0) = false := bne_eq_false_iff_eq.mpr c25
         clear c25
         by_cases c26 : t169.toList = ([49] : List UInt8)
         ·
          rw [if_pos c26] at H
          have c26b0 : (t169.toList == ([49] : List UInt8)) = true := beq_iff_eq.mpr c26
          have c26b1 : (t169.toList != ([49] : List UInt8)) = false := bne_eq_false_iff_eq.mpr c26
          clear c26
          by_cases c27 : t170 = 0
          ·
           rw [if_pos c27] at H
           have c27b0 : (t170 == 0) = true := beq_iff_eq.mpr c27
           have c27b1 : (t170 != 0) = false := bne_eq_false_iff_eq.mpr c27
           clear c27
           by_cases c28 : t173 = 0
           ·
            rw [if_pos c28] at H
            have c28b0 : (t173 == 0) = true := beq_iff_eq.mpr c28
            have c28b1 : (t173 != 0) = false := bne_eq_false_iff_eq.mpr c28
            clear c28
            have H' := Aside0.mk H
            clear H
            go_wp2_with (first | ((with_reducible refine gate_dst (N := 49) rfl ?_); (try (refine gate_guard (by rfl) ?_; dsimp only)); refine Kd.R_lit Kd.string _ 9 ?hg (N := 49) ?hd (xs := ([(⟨#[49, 48]⟩ : ByteArray), (⟨#[48]⟩ : ByteArray), (⟨#[49, 49]⟩ : ByteArray)] : List ByteArray)) (inner := [.string (⟨#[49, 48]⟩ : ByteArray), .string (⟨#[48]⟩ : ByteArray), .string (⟨#[49, 49]⟩ : ByteArray)]) (ok := fun _ => True) (okp := fun _ => True) ?hr ?hp (fun _ hk => hk) trivial (Below.refl _ _) (Nat.le_refl _) (by simp) ?_; (case hd => rfl); (case hg => rfl); (case hr => first | (go_simp; done) | (go_simp; rfl)); (case hp => exact (Reps.one (show Kd.M Kd.string _ _ _ (⟨#[49, 48]⟩ : ByteArray) [.string (⟨#[49, 48]⟩ : ByteArray)] from rfl) (Reps.one (show Kd.M Kd.string _ _ _ (⟨#[48]⟩ : ByteArray) [.string (⟨#[48]⟩ : ByteArray)] from rfl) (Reps.one (show Kd.M Kd.string _ _ _ (⟨#[49, 49]⟩ : ByteArray) [.string (⟨#[49, 49]⟩ : ByteArray)] from rfl) (Reps.none _ _))))); intro v175 w29 ho30 hb hg_ hnew_; clear hg_ hnew_; (first | rw [← Ny174.out] at ho30 | (simp only [Int.reduceToNat] at ho30; rw [← Ny174.out] at ho30)); have n0_ := Aside0.mk (Kd.R_below (by (with_reducible repeat (first | apply Kd.R_alloc | apply Kd.R_drewN | apply Kd.R_drew)); exact HO154.out) hb); have n1_ := Aside0.mk (Kd.R_below (by (with_reducible repeat (first | apply Kd.R_alloc | apply Kd.R_drewN | apply Kd.R_drew)); exact HO159.out) hb); have n2_ := Aside0.mk (Kd.R_below (by (with_reducible repeat (first | apply Kd.R_alloc | apply Kd.R_drewN | apply Kd.R_drew)); exact HO162.out) hb); have n3_ := Aside0.mk (Kd.R_elder' (by (with_reducible repeat (first | apply Kd.R_alloc | apply Kd.R_drewN | apply Kd.R_drew)); exact HO166.out) (Kd.R_base ho30) hb); have n4_ := Aside0.mk (Kd.R_lower (Kd.R_new' ho30 (Kd.R_lt (by (with_reducible repeat (first | apply Kd.R_alloc | apply Kd.R_drewN | apply Kd.R_drew)); exact HO166.out))) (below_size (by repeat (first | (with_reducible first | exact HB.out | apply below_alloc | apply pw_below_drewN | apply below_drew1) | exact HB.out)))); have n5_ := Aside0.mk (below_step (by repeat (first | (with_reducible first | exact HB.out | apply below_alloc | apply pw_below_drewN | apply below_drew1) | exact HB.out)) hb); clear HO154; clear HO159; clear HO162; clear HO166; clear HB; have HO154 := n0_; have HO159 := n1_; have HO162 := n2_; have HO166 := n3_; have HO176 := n4_; have HB := n5_; clear n0_ n1_ n2_ n3_ n4_ n5_; clear hb ho30; obtain ⟨Ao31, co31, eo31⟩ := Kd.R_slice HO166.out; subst eo31; obtain ⟨Ao32, co32, eo32⟩ := Kd.R_slice HO176.out; subst eo32) | (go_at_call 28; (with_reducible refine (turndownlaw06_texts.calls k _ _ t163 _ _ y174 true _ ?side1 ?side2 ?side3 ?side4 A21.out).mono ?_); (case side1 => repeat (first | exact (Kd.R_reads' HO166.out).2.2 | (with_reducible refine Kd.C_alloc ?_ _) | (with_reducible refine Kd.C_drewN ?_ _) | (with_reducible refine Kd.C_drew ?_))); (case side2 => exact (Kd.R_reads' HO166.out).2.1); (case side3 => repeat (first | exact (Kd.R_reads' HO176.out).2.2 | (with_reducible refine Kd.C_alloc ?_ _) | (with_reducible refine Kd.C_drewN ?_ _) | (with_reducible refine Kd.C_drew ?_))); (case side4 => exact (Kd.R_reads' HO176.out).2.1); rintro e w' ⟨rfl, ⟨nd, rfl⟩⟩))
            go_meet
            case rel => exact ⟨_, ((t172 != 5)), (by first | rfl | (simp; done) | (simp [*]; done)), H', ⟨by first | omega | exact Nat.le_refl _⟩, ⟨by repeat (first | (with_reducible first | exact HB.out | apply below_alloc | apply pw_below_drewN | apply below_drew1) | exact HB.out)⟩⟩
           ·
            rw [if_neg c28] at H
            have c28b0 : (t173 == 0) = false := beq_eq_false_iff_ne.mpr c28
            have c28b1 : (t173 != 0) = true := bne_iff_ne.mpr c28
            have H' := Aside0.mk H
            clear H
            go_wp2_with (first | ((with_reducible refine gate_dst (N := 49) rfl ?_); (try (refine gate_guard (by rfl) ?_; dsimp only)); refine Kd.R_lit Kd.string _ 9 ?hg (N := 49) ?hd (xs := ([(⟨#[49, 48]⟩ : ByteArray), (⟨#[48]⟩ : ByteArray), (⟨#[49, 49]⟩ : ByteArray)] : List ByteArray)) (inner := [.string (⟨#[49, 48]⟩ : ByteArray), .string (⟨#[48]⟩ : ByteArray), .string (⟨#[49, 49]⟩ : ByteArray)]) (ok := fun _ => True) (okp := fun _ => True) ?hr ?hp (fun _ hk => hk) trivial (Below.refl _ _) (Nat.le_refl _) (by simp) ?_; (case hd => rfl); (case hg => rfl); (case hr => first | (go_simp; done) | (go_simp; rfl)); (case hp => exact (Reps.one (show Kd.M Kd.string _ _ _ (⟨#[49, 48]⟩ : ByteArray) [.string (⟨#[49, 48]⟩ : ByteArray)] from rfl) (Reps.one (show Kd.M Kd.string _ _ _ (⟨#[48]⟩ : ByteArray) [.string (⟨#[48]⟩ : ByteArray)] from rfl) (Reps.one (show Kd.M Kd.string _ _ _ (⟨#[49, 49]⟩ : ByteArray) [.string (⟨#[49, 49]⟩ : ByteArray)] from rfl) (Reps.none _ _))))); intro v175 w33 ho34 hb hg_ hnew_; clear hg_ hnew_; (first | rw [← Ny174.out] at ho34 | (simp only [Int.reduceToNat] at ho34; rw [← Ny174.out] at ho34)); have n0_ := Aside0.mk (Kd.R_below (by (with_reducible repeat (first | apply Kd.R_alloc | apply Kd.R_drewN | apply Kd.R_drew)); exact HO154.out) hb); have n1_ := Aside0.mk (Kd.R_below (by (with_reducible repeat (first | apply Kd.R_alloc | apply Kd.R_drewN | apply Kd.R_drew)); exact HO159.out) hb); have n2_ := Aside0.mk (Kd.R_below (by (with_reducible repeat (first | apply Kd.R_alloc | apply Kd.R_drewN | apply Kd.R_drew)); exact HO162.out) hb); have n3_ := Aside0.mk (Kd.R_elder' (by (with_reducible repeat (first | apply Kd.R_alloc | apply Kd.R_drewN | apply Kd.R_drew)); exact HO166.out) (Kd.R_base ho34) hb); have n4_ := Aside0.mk (Kd.R_lower (Kd.R_new' ho34 (Kd.R_lt (by (with_reducible repeat (first | apply Kd.R_alloc | apply Kd.R_drewN | apply Kd.R_drew)); exact HO166.out))) (below_size (by repeat (first | (with_reducible first | exact HB.out | apply below_alloc | apply pw_below_drewN | apply below_drew1) | exact HB.out)))); have n5_ := Aside0.mk (below_step (by repeat (first | (with_reducible first | exact HB.out | apply below_alloc | apply pw_below_drewN | apply below_drew1) | exact HB.out)) hb); clear HO154; clear HO159; clear HO162; clear HO166; clear HB; have HO154 := n0_; have HO159 := n1_; have HO162 := n2_; have HO166 := n3_; have HO176 := n4_; have HB := n5_; clear n0_ n1_ n2_ n3_ n4_ n5_; clear hb ho34; obtain ⟨Ao35, co35, eo35⟩ := Kd.R_slice HO166.out; subst eo35; obtain ⟨Ao36, co36, eo36⟩ := Kd.R_slice HO176.out; subst eo36) | (go_at_call 28; (with_reducible refine (turndownlaw06_texts.calls k _ _ t163 _ _ y174 true _ ?side1 ?side2 ?side3 ?side4 A21.out).mono ?_); (case side1 => repeat (first | exact (Kd.R_reads' HO166.out).2.2 | (with_reducible refine Kd.C_alloc ?_ _) | (with_reducible refine Kd.C_drewN ?_ _) | (with_reducible refine Kd.C_drew ?_))); (case side2 => exact (Kd.R_reads' HO166.out).2.1); (case side3 => repeat (first | exact (Kd.R_reads' HO176.out).2.2 | (with_reducible refine Kd.C_alloc ?_ _) | (with_reducible refine Kd.C_drewN ?_ _) | (with_reducible refine Kd.C_drew ?_))); (case side4 => exact (Kd.R_reads' HO176.out).2.1); rintro e w' ⟨rfl, ⟨nd, rfl⟩⟩))
            go_meet
            case rel => exact ⟨_, (true), (by first | rfl | (simp; done) | (simp [*]; done)), H', ⟨by first | omega | exact Nat.le_refl _⟩, ⟨by repeat (first | (with_reducible first | exact HB.out | apply below_alloc | apply pw_below_drewN | apply below_drew1) | exact HB.out)⟩⟩
          ·
           rw [if_neg c27] at H
           have c27b0 : (t170 == 0) = false := beq_eq_false_iff_ne.mpr c27
           have c27b1 : (t170 != 0) = true := bne_iff_ne.mpr c27
           have H' := Aside0.mk H
           clear H
           go_wp2_with (first | ((with_reducible refine gate_dst (N := 49) rfl ?_); (try (refine gate_guard (by rfl) ?_; dsimp only)); refine Kd.R_lit Kd.string _ 9 ?hg (N := 49) ?hd (xs := ([(⟨#[49, 48]⟩ : ByteArray), (⟨#[48]⟩ : ByteArray), (⟨#[49, 49]⟩ : ByteArray)] : List ByteArray)) (inner := [.string (⟨#[49, 48]⟩ : ByteArray), .string (⟨#[48]⟩ : ByteArray), .string (⟨#[49, 49]⟩ : ByteArray)]) (ok := fun _ => True) (okp := fun _ => True) ?hr ?hp (fun _ hk => hk) trivial (Below.refl _ _) (Nat.le_refl _) (by simp) ?_; (case hd => rfl); (case hg => rfl); (case hr => first | (go_simp; done) | (go_simp; rfl)); (case hp => exact (Reps.one (show Kd.M Kd.string _ _ _ (⟨#[49, 48]⟩ : ByteArray) [.string (⟨#[49, 48]⟩ : ByteArray)] from rfl) (Reps.one (show Kd.M Kd.string _ _ _ (⟨#[48]⟩ : ByteArray) [.string (⟨#[48]⟩ : ByteArray)] from rfl) (Reps.one (show Kd.M Kd.string _ _ _ (⟨#[49, 49]⟩ : ByteArray) [.string (⟨#[49, 49]⟩ : ByteArray)] from rfl) (Reps.none _ _))))); intro v175 w37 ho38 hb hg_ hnew_; clear hg_ hnew_; (first | rw [← Ny174.out] at ho38 | (simp only [Int.reduceToNat] at ho38; rw [← Ny174.out] at ho38)); have n0_ := Aside0.mk (Kd.R_below (by (with_reducible repeat (first | apply Kd.R_alloc | apply Kd.R_drewN | apply Kd.R_drew)); exact HO154.out) hb); have n1_ := Aside0.mk (Kd.R_below (by (with_reducible repeat (first | apply Kd.R_alloc | apply Kd.R_drewN | apply Kd.R_drew)); exact HO159.out) hb); have n2_ := Aside0.mk (Kd.R_below (by (with_reducible repeat (first | apply Kd.R_alloc | apply Kd.R_drewN | apply Kd.R_drew)); exact HO162.out) hb); have n3_ := Aside0.mk (Kd.R_elder' (by (with_reducible repeat (first | apply Kd.R_alloc | apply Kd.R_drewN | apply Kd.R_drew)); exact HO166.out) (Kd.R_base ho38) hb); have n4_ := Aside0.mk (Kd.R_lower (Kd.R_new' ho38 (Kd.R_lt (by (with_reducible repeat (first | apply Kd.R_alloc | apply Kd.R_drewN | apply Kd.R_drew)); exact HO166.out))) (below_size (by repeat (first | (with_reducible first | exact HB.out | apply below_alloc | apply pw_below_drewN | apply below_drew1) | exact HB.out)))); have n5_ := Aside0.mk (below_step (by repeat (first | (with_reducible first | exact HB.out | apply below_alloc | apply pw_below_drewN | apply below_drew1) | exact HB.out)) hb); clear HO154; clear HO159; clear HO162; clear HO166; clear HB; have HO154 := n0_; have HO159 := n1_; have HO162 := n2_; have HO166 := n3_; have HO176 := n4_; have HB := n5_; clear n0_ n1_ n2_ n3_ n4_ n5_; clear hb ho38; obtain ⟨Ao39, co39, eo39⟩ := Kd.R_slice HO166.out; subst eo39; obtain ⟨Ao40, co40, eo40⟩ := Kd.R_slice HO176.out; subst eo40) | (go_at_call 28; (with_reducible refine (turndownlaw06_texts.calls k _ _ t163 _ _ y174 true _ ?side1 ?side2 ?side3 ?side4 A21.out).mono ?_); (case side1 => repeat (first | exact (Kd.R_reads' HO166.out).2.2 | (with_reducible refine Kd.C_alloc ?_ _) | (with_reducible refine Kd.C_drewN ?_ _) | (with_reducible refine Kd.C_drew ?_))); (case side2 => exact (Kd.R_reads' HO166.out).2.1); (case side3 => repeat (first | exact (Kd.R_reads' HO176.out).2.2 | (with_reducible refine Kd.C_alloc ?_ _) | (with_reducible refine Kd.C_drewN ?_ _) | (with_reducible refine Kd.C_drew ?_))); (case side4 => exact (Kd.R_reads' HO176.out).2.1); rintro e w' ⟨rfl, ⟨nd, rfl⟩⟩))
           go_meet
           case rel => exact ⟨_, (true), (by first | rfl | (simp; done) | (simp [*]; done)), H', ⟨by first | omega | exact Nat.le_refl _⟩, ⟨by repeat (first | (with_reducible first | exact HB.out | apply below_alloc | apply pw_below_drewN | apply below_drew1) | exact HB.out)⟩⟩
         ·
          rw [if_neg c26] at H
          have c26b0 : (t169.toList == ([49] : List UInt8)) = false := beq_eq_false_iff_ne.mpr c26
          have c26b1 : (t169.toList != ([49] : List UInt8)) = true := bne_iff_ne.mpr c26
          have H' := Aside0.mk H
          clear H
          go_wp2_with (first | ((with_reducible refine gate_dst (N := 49) rfl ?_); (try (refine gate_guard (by rfl) ?_; dsimp only)); refine Kd.R_lit Kd.string _ 9 ?hg (N := 49) ?hd (xs := ([(⟨#[49, 48]⟩ : ByteArray), (⟨#[48]⟩ : ByteArray), (⟨#[49, 49]⟩ : ByteArray)] : List ByteArray)) (inner := [.string (⟨#[49, 48]⟩ : ByteArray), .string (⟨#[48]⟩ : ByteArray), .string (⟨#[49, 49]⟩ : ByteArray)]) (ok := fun _ => True) (okp := fun _ => True) ?hr ?hp (fun _ hk => hk) trivial (Below.refl _ _) (Nat.le_refl _) (by simp) ?_; (case hd => rfl); (case hg => rfl); (case hr => first | (go_simp; done) | (go_simp; rfl)); (case hp => exact (Reps.one (show Kd.M Kd.string _ _ _ (⟨#[49, 48]⟩ : ByteArray) [.string (⟨#[49, 48]⟩ : ByteArray)] from rfl) (Reps.one (show Kd.M Kd.string _ _ _ (⟨#[48]⟩ : ByteArray) [.string (⟨#[48]⟩ : ByteArray)] from rfl) (Reps.one (show Kd.M Kd.string _ _ _ (⟨#[49, 49]⟩ : ByteArray) [.string (⟨#[49, 49]⟩ : ByteArray)] from rfl) (Reps.none _ _))))); intro v175 w41 ho42 hb hg_ hnew_; clear hg_ hnew_; (first | rw [← Ny174.out] at ho42 | (simp only [Int.reduceToNat] at ho42; rw [← Ny174.out] at ho42)); have n0_ := Aside0.mk (Kd.R_below (by (with_reducible repeat (first | apply Kd.R_alloc | apply Kd.R_drewN | apply Kd.R_drew)); exact HO154.out) hb); have n1_ := Aside0.mk (Kd.R_below (by (with_reducible repeat (first | apply Kd.R_alloc | apply Kd.R_drewN | apply Kd.R_drew)); exact HO159.out) hb); have n2_ := Aside0.mk (Kd.R_below (by (with_reducible repeat (first | apply Kd.R_alloc | apply Kd.R_drewN | apply Kd.R_drew)); exact HO162.out) hb); have n3_ := Aside0.mk (Kd.R_elder' (by (with_reducible repeat (first | apply Kd.R_alloc | apply Kd.R_drewN | apply Kd.R_drew)); exact HO166.out) (Kd.R_base ho42) hb); have n4_ := Aside0.mk (Kd.R_lower (Kd.R_new' ho42 (Kd.R_lt (by (with_reducible repeat (first | apply Kd.R_alloc | apply Kd.R_drewN | apply Kd.R_drew)); exact HO166.out))) (below_size (by repeat (first | (with_reducible first | exact HB.out | apply below_alloc | apply pw_below_drewN | apply below_drew1) | exact HB.out)))); have n5_ := Aside0.mk (below_step (by repeat (first | (with_reducible first | exact HB.out | apply below_alloc | apply pw_below_drewN | apply below_drew1) | exact HB.out)) hb); clear HO154; clear HO159; clear HO162; clear HO166; clear HB; have HO154 := n0_; have HO159 := n1_; have HO162 := n2_; have HO166 := n3_; have HO176 := n4_; have HB := n5_; clear n0_ n1_ n2_ n3_ n4_ n5_; clear hb ho42; obtain ⟨Ao43, co43, eo43⟩ := Kd.R_slice HO166.out; subst eo43; obtain ⟨Ao44, co44, eo44⟩ := Kd.R_slice HO176.out; subst eo44) | (go_at_call 28; (with_reducible refine (turndownlaw06_texts.calls k _ _ t163 _ _ y174 true _ ?side1 ?side2 ?side3 ?side4 A21.out).mono ?_); (case side1 => repeat (first | exact (Kd.R_reads' HO166.out).2.2 | (with_reducible refine Kd.C_alloc ?_ _) | (with_reducible refine Kd.C_drewN ?_ _) | (with_reducible refine Kd.C_drew ?_))); (case side2 => exact (Kd.R_reads' HO166.out).2.1); (case side3 => repeat (first | exact (Kd.R_reads' HO176.out).2.2 | (with_reducible refine Kd.C_alloc ?_ _) | (with_reducible refine Kd.C_drewN ?_ _) | (with_reducible refine Kd.C_drew ?_))); (case side4 => exact (Kd.R_reads' HO176.out).2.1); rintro e w' ⟨rfl, ⟨nd, rfl⟩⟩))
          go_meet
          case rel => exact ⟨_, (true), (by first | rfl | (simp; done) | (simp [*]; done)), H', ⟨by first | omega | exact Nat.le_refl _⟩, ⟨by repeat (first | (with_reducible first | exact HB.out | apply below_alloc | apply pw_below_drewN | apply below_drew1) | exact HB.out)⟩⟩
        ·
         rw [if_neg c25] at H
         have c25b0 : (t171 == 0) = false := beq_eq_false_iff_ne.mpr c25
         have c25b1 : (t171 != 0) = true := bne_iff_ne.mpr c25
         have H' := Aside0.mk H
         clear H
         go_wp2_with (first | ((with_reducible refine gate_dst (N := 49) rfl ?_); (try (refine gate_guard (by rfl) ?_; dsimp only)); refine Kd.R_lit Kd.string _ 9 ?hg (N := 49) ?hd (xs := ([(⟨#[49, 48]⟩ : ByteArray), (⟨#[48]⟩ : ByteArray), (⟨#[49, 49]⟩ : ByteArray)] : List ByteArray)) (inner := [.string (⟨#[49, 48]⟩ : ByteArray), .string (⟨#[48]⟩ : ByteArray), .string (⟨#[49, 49]⟩ : ByteArray)]) (ok := fun _ => True) (okp := fun _ => True) ?hr ?hp (fun _ hk => hk) trivial (Below.refl _ _) (Nat.le_refl _) (by simp) ?_; (case hd => rfl); (case hg => rfl); (case hr => first | (go_simp; done) | (go_simp; rfl)); (case hp => exact (Reps.one (show Kd.M Kd.string _ _ _ (⟨#[49, 48]⟩ : ByteArray) [.string (⟨#[49, 48]⟩ : ByteArray)] from rfl) (Reps.one (show Kd.M Kd.string _ _ _ (⟨#[48]⟩ : ByteArray) [.string (⟨#[48]⟩ : ByteArray)] from rfl) (Reps.one (show Kd.M Kd.string _ _ _ (⟨#[49, 49]⟩ : ByteArray) [.string (⟨#[49, 49]⟩ : ByteArray)] from rfl) (Reps.none _ _))))); intro v175 w45 ho46 hb hg_ hnew_; clear hg_ hnew_; (first | rw [← Ny174.out] at ho46 | (simp only [Int.reduceToNat] at ho46; rw [← Ny174.out] at ho46)); have n0_ := Aside0.mk (Kd.R_below (by (with_reducible repeat (first | apply Kd.R_alloc | apply Kd.R_drewN | apply Kd.R_drew)); exact HO154.out) hb); have n1_ := Aside0.mk (Kd.R_below (by (with_reducible repeat (first | apply Kd.R_alloc | apply Kd.R_drewN | apply Kd.R_drew)); exact HO159.out) hb); have n2_ := Aside0.mk (Kd.R_below (by (with_reducible repeat (first | apply Kd.R_alloc | apply Kd.R_drewN | apply Kd.R_drew)); exact HO162.out) hb); have n3_ := Aside0.mk (Kd.R_elder' (by (with_reducible repeat (first | apply Kd.R_alloc | apply Kd.R_drewN | apply Kd.R_drew)); exact HO166.out) (Kd.R_base ho46) hb); have n4_ := Aside0.mk (Kd.R_lower (Kd.R_new' ho46 (Kd.R_lt (by (with_reducible repeat (first | apply Kd.R_alloc | apply Kd.R_drewN | apply Kd.R_drew)); exact HO166.out))) (below_size (by repeat (first | (with_reducible first | exact HB.out | apply below_alloc | apply pw_below_drewN | apply below_drew1) | exact HB.out)))); have n5_ := Aside0.mk (below_step (by repeat (first | (with_reducible first | exact HB.out | apply below_alloc | apply pw_below_drewN | apply below_drew1) | exact HB.out)) hb); clear HO154; clear HO159; clear HO162; clear HO166; clear HB; have HO154 := n0_; have HO159 := n1_; have HO162 := n2_; have HO166 := n3_; have HO176 := n4_; have HB := n5_; clear n0_ n1_ n2_ n3_ n4_ n5_; clear hb ho46; obtain ⟨Ao47, co47, eo47⟩ := Kd.R_slice HO166.out; subst eo47; obtain ⟨Ao48, co48, eo48⟩ := Kd.R_slice HO176.out; subst eo48) | (go_at_call 28; (with_reducible refine (turndownlaw06_texts.calls k _ _ t163 _ _ y174 true _ ?side1 ?side2 ?side3 ?side4 A21.out).mono ?_); (case side1 => repeat (first | exact (Kd.R_reads' HO166.out).2.2 | (with_reducible refine Kd.C_alloc ?_ _) | (with_reducible refine Kd.C_drewN ?_ _) | (with_reducible refine Kd.C_drew ?_))); (case side2 => exact (Kd.R_reads' HO166.out).2.1); (case side3 => repeat (first | exact (Kd.R_reads' HO176.out).2.2 | (with_reducible refine Kd.C_alloc ?_ _) | (with_reducible refine Kd.C_drewN ?_ _) | (with_reducible refine Kd.C_drew ?_))); (case side4 => exact (Kd.R_reads' HO176.out).2.1); rintro e w' ⟨rfl, ⟨nd, rfl⟩⟩))
         go_meet
         case rel => exact ⟨_, (true), (by first | rfl | (simp; done) | (simp [*]; done)), H', ⟨by first | omega | exact Nat.le_refl _⟩, ⟨by repeat (first | (with_reducible first | exact HB.out | apply below_alloc | apply pw_below_drewN | apply below_drew1) | exact HB.out)⟩⟩
       ·
        rw [if_neg c24] at H
        have c24b0 : (t167.toList == ([49, 49, 49, 48, 49, 49, 48, 48] : List UInt8)) = false := beq_eq_false_iff_ne.mpr c24
        have c24b1 : (t167.toList != ([49, 49, 49, 48, 49, 49, 48, 48] : List UInt8)) = true := bne_iff_ne.mpr c24
        have H' := Aside0.mk H
        clear H
        go_wp2_with (first | ((with_reducible refine gate_dst (N := 49) rfl ?_); (try (refine gate_guard (by rfl) ?_; dsimp only)); refine Kd.R_lit Kd.string _ 9 ?hg (N := 49) ?hd (xs := ([(⟨#[49, 48]⟩ : ByteArray), (⟨#[48]⟩ : ByteArray), (⟨#[49, 49]⟩ : ByteArray)] : List ByteArray)) (inner := [.string (⟨#[49, 48]⟩ : ByteArray), .string (⟨#[48]⟩ : ByteArray), .string (⟨#[49, 49]⟩ : ByteArray)]) (ok := fun _ => True) (okp := fun _ => True) ?hr ?hp (fun _ hk => hk) trivial (Below.refl _ _) (Nat.le_refl _) (by simp) ?_; (case hd => rfl); (case hg => rfl); (case hr => first | (go_simp; done) | (go_simp; rfl)); (case hp => exact (Reps.one (show Kd.M Kd.string _ _ _ (⟨#[49, 48]⟩ : ByteArray) [.string (⟨#[49, 48]⟩ : ByteArray)] from rfl) (Reps.one (show Kd.M Kd.string _ _ _ (⟨#[48]⟩ : ByteArray) [.string (⟨#[48]⟩ : ByteArray)] from rfl) (Reps.one (show Kd.M Kd.string _ _ _ (⟨#[49, 49]⟩ : ByteArray) [.string (⟨#[49, 49]⟩ : ByteArray)] from rfl) (Reps.none _ _))))); intro v175 w49 ho50 hb hg_ hnew_; clear hg_ hnew_; (first | rw [← Ny174.out] at ho50 | (simp only [Int.reduceToNat] at ho50; rw [← Ny174.out] at ho50)); have n0_ := Aside0.mk (Kd.R_below (by (with_reducible repeat (first | apply Kd.R_alloc | apply Kd.R_drewN | apply Kd.R_drew)); exact HO154.out) hb); have n1_ := Aside0.mk (Kd.R_below (by (with_reducible repeat (first | apply Kd.R_alloc | apply Kd.R_drewN | apply Kd.R_drew)); exact HO159.out) hb); have n2_ := Aside0.mk (Kd.R_below (by (with_reducible repeat (first | apply Kd.R_alloc | apply Kd.R_drewN | apply Kd.R_drew)); exact HO162.out) hb); have n3_ := Aside0.mk (Kd.R_elder' (by (with_reducible repeat (first | apply Kd.R_alloc | apply Kd.R_drewN | apply Kd.R_drew)); exact HO166.out) (Kd.R_base ho50) hb); have n4_ := Aside0.mk (Kd.R_lower (Kd.R_new' ho50 (Kd.R_lt (by (with_reducible repeat (first | apply Kd.R_alloc | apply Kd.R_drewN | apply Kd.R_drew)); exact HO166.out))) (below_size (by repeat (first | (with_reducible first | exact HB.out | apply below_alloc | apply pw_below_drewN | apply below_drew1) | exact HB.out)))); have n5_ := Aside0.mk (below_step (by repeat (first | (with_reducible first | exact HB.out | apply below_alloc | apply pw_below_drewN | apply below_drew1) | exact HB.out)) hb); clear HO154; clear HO159; clear HO162; clear HO166; clear HB; have HO154 := n0_; have HO159 := n1_; have HO162 := n2_; have HO166 := n3_; have HO176 := n4_; have HB := n5_; clear n0_ n1_ n2_ n3_ n4_ n5_; clear hb ho50; obtain ⟨Ao51, co51, eo51⟩ := Kd.R_slice HO166.out; subst eo51; obtain ⟨Ao52, co52, eo52⟩ := Kd.R_slice HO176.out; subst eo52) | (go_at_call 28; (with_reducible refine (turndownlaw06_texts.calls k _ _ t163 _ _ y174 true _ ?side1 ?side2 ?side3 ?side4 A21.out).mono ?_); (case side1 => repeat (first | exact (Kd.R_reads' HO166.out).2.2 | (with_reducible refine Kd.C_alloc ?_ _) | (with_reducible refine Kd.C_drewN ?_ _) | (with_reducible refine Kd.C_drew ?_))); (case side2 => exact (Kd.R_reads' HO166.out).2.1); (case side3 => repeat (first | exact (Kd.R_reads' HO176.out).2.2 | (with_reducible refine Kd.C_alloc ?_ _) | (with_reducible refine Kd.C_drewN ?_ _) | (with_reducible refine Kd.C_drew ?_))); (case side4 => exact (Kd.R_reads' HO176.out).2.1); rintro e w' ⟨rfl, ⟨nd, rfl⟩⟩))
        go_meet
        case rel => exact ⟨_, (true), (by first | rfl | (simp; done) | (simp [*]; done)), H', ⟨by first | omega | exact Nat.le_refl _⟩, ⟨by repeat (first | (with_reducible first | exact HB.out | apply below_alloc | apply pw_below_drewN | apply below_drew1) | exact HB.out)⟩⟩
      ·
       rw [if_neg c23] at H
       have c23b0 : (t168 == 0) = false := beq_eq_false_iff_ne.mpr c23
       have c23b1 : (t168 != 0) = true := bne_iff_ne.mpr c23
       have H' := Aside0.mk H
       clear H
       go_wp2_with (first | ((with_reducible refine gate_dst (N := 49) rfl ?_); (try (refine gate_guard (by rfl) ?_; dsimp only)); refine Kd.R_lit Kd.string _ 9 ?hg (N := 49) ?hd (xs := ([(⟨#[49, 48]⟩ : ByteArray), (⟨#[48]⟩ : ByteArray), (⟨#[49, 49]⟩ : ByteArray)] : List ByteArray)) (inner := [.string (⟨#[49, 48]⟩ : ByteArray), .string (⟨#[48]⟩ : ByteArray), .string (⟨#[49, 49]⟩ : ByteArray)]) (ok := fun _ => True) (okp := fun _ => True) ?hr ?hp (fun _ hk => hk) trivial (Below.refl _ _) (Nat.le_refl _) (by simp) ?_; (case hd => rfl); (case hg => rfl); (case hr => first | (go_simp; done) | (go_simp; rfl)); (case hp => exact (Reps.one (show Kd.M Kd.string _ _ _ (⟨#[49, 48]⟩ : ByteArray) [.string (⟨#[49, 48]⟩ : ByteArray)] from rfl) (Reps.one (show Kd.M Kd.string _ _ _ (⟨#[48]⟩ : ByteArray) [.string (⟨#[48]⟩ : ByteArray)] from rfl) (Reps.one (show Kd.M Kd.string _ _ _ (⟨#[49, 49]⟩ : ByteArray) [.string (⟨#[49, 49]⟩ : ByteArray)] from rfl) (Reps.none _ _))))); intro v175 w53 ho54 hb hg_ hnew_; clear hg_ hnew_; (first | rw [← Ny174.out] at ho54 | (simp only [Int.reduceToNat] at ho54; rw [← Ny174.out] at ho54)); have n0_ := Aside0.mk (Kd.R_below (by (with_reducible repeat (first | apply Kd.R_alloc | apply Kd.R_drewN | apply Kd.R_drew)); exact HO154.out) hb); have n1_ := Aside0.mk (Kd.R_below (by (with_reducible repeat (first | apply Kd.R_alloc | apply Kd.R_drewN | apply Kd.R_drew)); exact HO159.out) hb); have n2_ := Aside0.mk (Kd.R_below (by (with_reducible repeat (first | apply Kd.R_alloc | apply Kd.R_drewN | apply Kd.R_drew)); exact HO162.out) hb); have n3_ := Aside0.mk (Kd.R_elder' (by (with_reducible repeat (first | apply Kd.R_alloc | apply Kd.R_drewN | apply Kd.R_drew)); exact HO166.out) (Kd.R_base ho54) hb); have n4_ := Aside0.mk (Kd.R_lower (Kd.R_new' ho54 (Kd.R_lt (by (with_reducible repeat (first | apply Kd.R_alloc | apply Kd.R_drewN | apply Kd.R_drew)); exact HO166.out))) (below_size (by repeat (first | (with_reducible first | exact HB.out | apply below_alloc | apply pw_below_drewN | apply below_drew1) | exact HB.out)))); have n5_ := Aside0.mk (below_step (by repeat (first | (with_reducible first | exact HB.out | apply below_alloc | apply pw_below_drewN | apply below_drew1) | exact HB.out)) hb); clear HO154; clear HO159; clear HO162; clear HO166; clear HB; have HO154 := n0_; have HO159 := n1_; have HO162 := n2_; have HO166 := n3_; have HO176 := n4_; have HB := n5_; clear n0_ n1_ n2_ n3_ n4_ n5_; clear hb ho54; obtain ⟨Ao55, co55, eo55⟩ := Kd.R_slice HO166.out; subst eo55; obtain ⟨Ao56, co56, eo56⟩ := Kd.R_slice HO176.out; subst eo56) | (go_at_call 28; (with_reducible refine (turndownlaw06_texts.calls k _ _ t163 _ _ y174 true _ ?side1 ?side2 ?side3 ?side4 A21.out).mono ?_); (case side1 => repeat (first | exact (Kd.R_reads' HO166.out).2.2 | (with_reducible refine Kd.C_alloc ?_ _) | (with_reducible refine Kd.C_drewN ?_ _) | (with_reducible refine Kd.C_drew ?_))); (case side2 => exact (Kd.R_reads' HO166.out).2.1); (case side3 => repeat (first | exact (Kd.R_reads' HO176.out).2.2 | (with_reducible refine Kd.C_alloc ?_ _) | (with_reducible refine Kd.C_drewN ?_ _) | (with_reducible refine Kd.C_drew ?_))); (case side4 => exact (Kd.R_reads' HO176.out).2.1); rintro e w' ⟨rfl, ⟨nd, rfl⟩⟩))
       go_meet
       case rel => exact ⟨_, (true), (by first | rfl | (simp; done) | (simp [*]; done)), H', ⟨by first | omega | exact Nat.le_refl _⟩, ⟨by repeat (first | (with_reducible first | exact HB.out | apply below_alloc | apply pw_below_drewN | apply below_drew1) | exact HB.out)⟩⟩
     ·
      replace c22 := Bool.eq_false_iff.mpr c22
      subst c22
      have H1 : (turndownlaw06_awake.j0 k true) = some r := by rw [if_neg (show ¬ (false = true) by decide)] at H; exact H
      clear H
      have H := H1
      clear H1
      have H' := Aside0.mk H
      clear H
      go_wp2_with (first | ((with_reducible refine gate_dst (N := 49) rfl ?_); (try (refine gate_guard (by rfl) ?_; dsimp only)); refine Kd.R_lit Kd.string _ 9 ?hg (N := 49) ?hd (xs := ([(⟨#[49, 48]⟩ : ByteArray), (⟨#[48]⟩ : ByteArray), (⟨#[49, 49]⟩ : ByteArray)] : List ByteArray)) (inner := [.string (⟨#[49, 48]⟩ : ByteArray), .string (⟨#[48]⟩ : ByteArray), .string (⟨#[49, 49]⟩ : ByteArray)]) (ok := fun _ => True) (okp := fun _ => True) ?hr ?hp (fun _ hk => hk) trivial (Below.refl _ _) (Nat.le_refl _) (by simp) ?_; (case hd => rfl); (case hg => rfl); (case hr => first | (go_simp; done) | (go_simp; rfl)); (case hp => exact (Reps.one (show Kd.M Kd.string _ _ _ (⟨#[49, 48]⟩ : ByteArray) [.string (⟨#[49, 48]⟩ : ByteArray)] from rfl) (Reps.one (show Kd.M Kd.string _ _ _ (⟨#[48]⟩ : ByteArray) [.string (⟨#[48]⟩ : ByteArray)] from rfl) (Reps.one (show Kd.M Kd.string _ _ _ (⟨#[49, 49]⟩ : ByteArray) [.string (⟨#[49, 49]⟩ : ByteArray)] from rfl) (Reps.none _ _))))); intro v175 w57 ho58 hb hg_ hnew_; clear hg_ hnew_; (first | rw [← Ny174.out] at ho58 | (simp only [Int.reduceToNat] at ho58; rw [← Ny174.out] at ho58)); have n0_ := Aside0.mk (Kd.R_below (by (with_reducible repeat (first | apply Kd.R_alloc | apply Kd.R_drewN | apply Kd.R_drew)); exact HO154.out) hb); have n1_ := Aside0.mk (Kd.R_below (by (with_reducible repeat (first | apply Kd.R_alloc | apply Kd.R_drewN | apply Kd.R_drew)); exact HO159.out) hb); have n2_ := Aside0.mk (Kd.R_below (by (with_reducible repeat (first | apply Kd.R_alloc | apply Kd.R_drewN | apply Kd.R_drew)); exact HO162.out) hb); have n3_ := Aside0.mk (Kd.R_elder' (by (with_reducible repeat (first | apply Kd.R_alloc | apply Kd.R_drewN | apply Kd.R_drew)); exact HO166.out) (Kd.R_base ho58) hb); have n4_ := Aside0.mk (Kd.R_lower (Kd.R_new' ho58 (Kd.R_lt (by (with_reducible repeat (first | apply Kd.R_alloc | apply Kd.R_drewN | apply Kd.R_drew)); exact HO166.out))) (below_size (by repeat (first | (with_reducible first | exact HB.out | apply below_alloc | apply pw_below_drewN | apply below_drew1) | exact HB.out)))); have n5_ := Aside0.mk (below_step (by repeat (first | (with_reducible first | exact HB.out | apply below_alloc | apply pw_below_drewN | apply below_drew1) | exact HB.out)) hb); clear HO154; clear HO159; clear HO162; clear HO166; clear HB; have HO154 := n0_; have HO159 := n1_; have HO162 := n2_; have HO166 := n3_; have HO176 := n4_; have HB := n5_; clear n0_ n1_ n2_ n3_ n4_ n5_; clear hb ho58; obtain ⟨Ao59, co59, eo59⟩ := Kd.R_slice HO166.out; subst eo59; obtain ⟨Ao60, co60, eo60⟩ := Kd.R_slice HO176.out; subst eo60) | (go_at_call 28; (with_reducible refine (turndownlaw06_texts.calls k _ _ t163 _ _ y174 false _ ?side1 ?side2 ?side3 ?side4 A21.out).mono ?_); (case side1 => repeat (first | exact (Kd.R_reads' HO166.out).2.2 | (with_reducible refine Kd.C_alloc ?_ _) | (with_reducible refine Kd.C_drewN ?_ _) | (with_reducible refine Kd.C_drew ?_))); (case side2 => exact (Kd.R_reads' HO166.out).2.1); (case side3 => repeat (first | exact (Kd.R_reads' HO176.out).2.2 | (with_reducible refine Kd.C_alloc ?_ _) | (with_reducible refine Kd.C_drewN ?_ _) | (with_reducible refine Kd.C_drew ?_))); (case side4 => exact (Kd.R_reads' HO176.out).2.1); rintro e w' ⟨rfl, ⟨nd, rfl⟩⟩))
      go_meet
      case rel => exact ⟨_, (true), (by first | rfl | (simp; done) | (simp [*]; done)), H', ⟨by first | omega | exact Nat.le_refl _⟩, ⟨by repeat (first | (with_reducible first | exact HB.out | apply below_alloc | apply pw_below_drewN | apply below_drew1) | exact HB.out)⟩⟩
    ·
     rw [if_neg c20] at H
     have c20b0 : (t164 == 0) = false := beq_eq_false_iff_ne.mpr c20
     have c20b1 : (t164 != 0) = true := bne_iff_ne.mpr c20
     have H' := Aside0.mk H
     clear H
     go_wp2
     go_meet
     case rel => exact ⟨_, (true), (by first | rfl | (simp; done) | (simp [*]; done)), H', ⟨by first | omega | exact Nat.le_refl _⟩, ⟨by repeat (first | (with_reducible first | exact HB.out | apply below_alloc | apply pw_below_drewN | apply below_drew1) | exact HB.out)⟩⟩
   ·
    rw [if_neg c19] at H
    have c19b0 : (t156 == 14) = false := beq_eq_false_iff_ne.mpr c19
    have c19b1 : (t156 != 14) = true := bne_iff_ne.mpr c19
    have H' := Aside0.mk H
    clear H
    go_wp2
    go_meet
    case rel => exact ⟨_, (true), (by first | rfl | (simp; done) | (simp [*]; done)), H', ⟨by first | omega | exact Nat.le_refl _⟩, ⟨by repeat (first | (with_reducible first | exact HB.out | apply below_alloc | apply pw_below_drewN | apply below_drew1) | exact HB.out)⟩⟩
  ·
   rw [if_neg c18] at H
   have c18b0 : (t157 == 0) = false := beq_eq_false_iff_ne.mpr c18
   have c18b1 : (t157 != 0) = true := bne_iff_ne.mpr c18
   (first | rw [c18b0] | (simp only [i64_w, i32_w]; rw [c18b0]) | skip)
   have H' := Aside0.mk H
   clear H
   go_wp2
   go_meet
   case rel => exact ⟨_, (true), (by first | rfl | (simp; done) | (simp [*]; done)), H', ⟨by first | omega | exact Nat.le_refl _⟩, ⟨by repeat (first | (with_reducible first | exact HB.out | apply below_alloc | apply pw_below_drewN | apply below_drew1) | exact HB.out)⟩⟩
 case rest =>
  clear HC6
  try clear c1
  try clear c2
  try clear p2
  try clear c3
  try clear c18
  try clear c18b0
  try clear c18b1
  try clear c19
  try clear c19b0
  try clear c19b1
  try clear c20
  try clear c20b0
  try clear c20b1
  try clear c22
  try clear c23
  try clear c23b0
  try clear c23b1
  try clear c24
  try clear c24b0
  try clear c24b1
  try clear c25
  try clear c25b0
  try clear c25b1
  try clear c26
  try clear c26b0
  try clear c26b1
  try clear c27
  try clear c27b0
  try clear c27b1
  try clear c28
  try clear c28b0
  try clear c28b1
  try clear c30
  try clear c34
  try clear c36
  obtain ⟨kq, x80_5, rfl, HA, HJ5, HB⟩ := hcut
  cases kq with
  | zero => exact absurd HA.out (by simp [turndownlaw06_awake.j0])
  | succ kj5 =>
   have H := HA.out
   clear HA
   simp only [turndownlaw06_awake.j0] at H
   by_cases c61 : x80_5 = true
   ·
    subst c61
    have H1 : (some false) = some r := by rw [if_pos rfl] at H; exact H
    clear H
    have H := H1
    clear H1
    obtain rfl := Option.some.inj H
    go_wp2
    go_ret
    exact ⟨by first | rfl | (simp [errW_none, errW_some] <;> rfl) | (simp [*, errW_none, errW_some] <;> rfl), by repeat (first | (with_reducible first | exact HB.out | apply below_alloc | apply pw_below_drewN | apply below_drew1) | exact HB.out)⟩
   ·
    replace c61 := Bool.eq_false_iff.mpr c61
    subst c61
    have H1 : (some true) = some r := by rw [if_neg (show ¬ (false = true) by decide)] at H; exact H
    clear H
    have H := H1
    clear H1
    obtain rfl := Option.some.inj H
    go_wp2
    go_ret
    exact ⟨by first | rfl | (simp [errW_none, errW_some] <;> rfl) | (simp [*, errW_none, errW_some] <;> rfl), by repeat (first | (with_reducible first | exact HB.out | apply below_alloc | apply pw_below_drewN | apply below_drew1) | exact HB.out)⟩
end Go.Proofs.Ytcpojohpmcnnhaa.PA

set_option linter.unusedVariables false
set_option linter.unusedSimpArgs false
namespace Go.Proofs.Ytcpojohpmcnnhaa.K
abbrev Pack := Int × List Nat
def wt (L : List Pack) : Int := (L.map (·.1)).sum
section
variable {f : List Pack → List Pack} {ws : List Int} {single : List Pack}
end
end Go.Proofs.Ytcpojohpmcnnhaa.K

set_option linter.unusedVariables false
set_option linter.unusedSimpArgs false
namespace Go.Proofs.Ytcpojohpmcnnhaa.K
abbrev WL := List (Int × Nat)
end Go.Proofs.Ytcpojohpmcnnhaa.K

set_option linter.unusedVariables false
set_option linter.unusedSimpArgs false
namespace Go.Proofs.Ytcpojohpmcnnhaa.K
def far : Int := 1152921504606846976
def mnI (a b : Int) : Int := if b < a then b else a
def idx (n i o : Nat) : Nat := i * (n + 1) + o
def stepT (n : Nat) (rest : List Int) (i o : Nat) (cost : Int) (st : List Int × Int) (t : Nat) : List Int × Int :=
  if i + t = n then (st.1, mnI st.2 cost)
  else (st.1.set (idx n (i + t) (min n (2 * (o - t)))) (mnI (st.1.getD (idx n (i + t) (min n (2 * (o - t)))) 0) (cost + rest.getD (i + t) 0)), st.2)
def stepO (n : Nat) (rest best : List Int) (i : Nat) (st : List Int × Int) (o' : Nat) : List Int × Int :=
  if best.getD (idx n i (o' + 1)) 0 < far then (List.range (min (o' + 1) (n - i) + 1)).foldl (stepT n rest i (o' + 1) (best.getD (idx n i (o' + 1)) 0)) st else st
def stepI (n : Nat) (rest best : List Int) (st : List Int × Int) (i : Nat) : List Int × Int := (List.range n).foldl (stepO n rest best i) st
def costL (w : List Int) (ls : List Nat) : Int := ((w.zip ls).map fun p => p.1 * ((p.2 : Nat) : Int)).sum
def krL (v : Nat) (ls : List Nat) : Nat := (ls.map fun l => 2 ^ (v - l)).sum
theorem costL_append {w : List Int} {ls : List Nat} {k v : Nat} (h : ls.length ≤ w.length) : costL w (ls ++ List.replicate k v) = costL w ls + ((w.drop ls.length).take k).sum * (v : Int) := by
  induction ls generalizing w with
  | nil =>
    simp only [List.nil_append, List.length_nil, List.drop_zero]
    have e : costL w [] = 0 := by simp [costL]
    rw [e, Int.zero_add]
    induction k generalizing w with
    | zero => simp [costL]
    | succ k ih =>
      cases w with
      | nil => simp [costL]
      | cons x w =>
        have := ih (w := w) (by simp) (by simp [costL])
        simp only [costL, List.replicate_succ, List.zip_cons_cons, List.map_cons, List.sum_cons, List.take_succ_cons] at this ⊢
        rw [this, Int.add_mul]
  | cons l ls ih =>
    cases w with
    | nil => simp at h
    | cons x w =>
      have := ih (w := w) (by simpa using h)
      simp only [costL, List.cons_append, List.zip_cons_cons, List.map_cons, List.sum_cons, List.length_cons, List.drop_succ_cons] at this ⊢
      rw [this]; omega
theorem krL_succ {v : Nat} {ls : List Nat} (h : ∀ l, l ∈ ls → l ≤ v) : krL (v + 1) ls = 2 * krL v ls := by
  induction ls with
  | nil => rfl
  | cons l ls ih =>
    have h1 := ih (fun x hx => h x (by simp [hx]))
    have h2 := h l (by simp)
    simp only [krL, List.map_cons, List.sum_cons] at h1 ⊢
    rw [h1, show v + 1 - l = (v - l) + 1 by omega, Nat.pow_succ]
    omega
theorem krL_rep (v k : Nat) (ls : List Nat) : krL v (ls ++ List.replicate k v) = krL v ls + k := by simp [krL]
structure Held (w : List Int) (n v i o : Nat) (c : Int) : Prop where
  lt : i < n
  some : ∃ ls : List Nat, ls.length = i ∧ (∀ l, l ∈ ls → l < v) ∧ krL v ls + o ≤ 2 ^ v ∧ c = costL w ls + (w.drop i).sum * (v : Int)
def Done (w : List Int) (n v : Nat) (c : Int) : Prop := ∃ ls : List Nat, ls.length = n ∧ (∀ l, l ∈ ls → l ≤ v) ∧ krL v ls ≤ 2 ^ v ∧ c = costL w ls
theorem sum_drop (w : List Int) (i t : Nat) : (w.drop i).sum = ((w.drop i).take t).sum + (w.drop (i + t)).sum := by
  conv => lhs; rw [← List.take_append_drop t (w.drop i), List.sum_append, List.drop_drop]
theorem Held.next {w : List Int} {n v i o t : Nat} {c : Int} (h : Held w n v i o c) (hw : w.length = n) (ht : t ≤ o) (hi : i + t < n) (o' : Nat) (ho : o' ≤ 2 * (o - t)) : Held w n (v + 1) (i + t) o' (c + (w.drop (i + t)).sum) := by
  obtain ⟨ls, h1, h2, h3, rfl⟩ := h.some
  refine ⟨hi, ls ++ List.replicate t v, by simp [h1], fun l hl => ?_, ?_, ?_⟩
  · rcases List.mem_append.1 hl with hl | hl
    · have := h2 l hl; omega
    · rw [List.eq_of_mem_replicate hl]; omega
  · have e : krL (v + 1) (ls ++ List.replicate t v) = 2 * (krL v ls + t) := by
      rw [krL_succ, krL_rep]
      intro l hl
      rcases List.mem_append.1 hl with hl | hl
      · exact Nat.le_of_lt (h2 l hl)
      · rw [List.eq_of_mem_replicate hl]; omega
    rw [e, Nat.pow_succ]; omega
  · rw [costL_append (by omega), h1]
    have := sum_drop w i t
    rw [this]
    push_cast
    rw [Int.add_mul, Int.mul_add, Int.mul_one]
    omega
theorem Held.done {w : List Int} {n v i o : Nat} {c : Int} (h : Held w n v i o c) (hw : w.length = n) (ho : n - i ≤ o) : Done w n v c := by
  obtain ⟨ls, h1, h2, h3, rfl⟩ := h.some
  have hi := h.lt
  refine ⟨ls ++ List.replicate (n - i) v, by simp [h1]; omega, fun l hl => ?_, ?_, ?_⟩
  · rcases List.mem_append.1 hl with hl | hl
    · exact Nat.le_of_lt (h2 l hl)
    · rw [List.eq_of_mem_replicate hl]; exact Nat.le_refl _
  · rw [krL_rep]; omega
  · rw [costL_append (by omega), h1]
    rw [List.take_of_length_le (by rw [List.length_drop]; omega)]
end Go.Proofs.Ytcpojohpmcnnhaa.K

set_option linter.unusedVariables false
set_option linter.unusedSimpArgs false
namespace Go.Proofs.Ytcpojohpmcnnhaa.K
def sumFZ (ps : WL) (g : Int × Nat → Int) : Int := (ps.map g).sum
def dW (ps : WL) (k : Nat) : Int := sumFZ ps (fun p => p.1 * ((min p.2 k : Nat) : Int))
end Go.Proofs.Ytcpojohpmcnnhaa.K

set_option linter.unusedVariables false
set_option linter.unusedSimpArgs false
namespace Go.Proofs.Ytcpojohpmcnnhaa.L
open Go.RowKit Go.Proofs.YtcpojohpmcnnhaaW.PrintWords Go.Proofs.YtcpojohpmcnnhaaW.PrintLast Go.Proofs.YtcpojohpmcnnhaaW.PrintMore
open Go.Proofs.Ytcpojohpmcnnhaa.PA Go.Proofs.Ytcpojohpmcnnhaa.A
theorem within_all (a b c : Int) : code_within.f a b c = some (decide (b ≤ a) && decide (a ≤ c)) := by
  unfold code_within.f
  by_cases h : a ≥ b
  · rw [if_pos h]; simp [h]
  · rw [if_neg h]; simp; omega
theorem w1 {q : Nat} (h : q ≤ 100000000) : wrap64 ((q : Int) + 1) = ((q + 1 : Nat) : Int) := by unfold wrap64; omega
theorem drop_cons {α : Type} {l : List α} {q : Nat} (h : q < l.length) (d : α) : l.drop q = l.getD q d :: l.drop (q + 1) := by
  rw [List.getD_eq_getElem?_getD, List.getElem?_eq_getElem h]
  exact List.drop_eq_getElem_cons h
theorem awake_ev : Ev (fun k => turndownlaw06_awake.f k) true := Ev.of (fun k => turndownlaw06_awake.mono k) (k := 200) (by decide +kernel)
end Go.Proofs.Ytcpojohpmcnnhaa.L

set_option linter.unusedVariables false
set_option linter.unusedSimpArgs false
namespace Go.Proofs.Ytcpojohpmcnnhaa.L
open Go.RowKit Go.Proofs.YtcpojohpmcnnhaaW.PrintWords Go.Proofs.YtcpojohpmcnnhaaW.PrintLast Go.Proofs.YtcpojohpmcnnhaaW.PrintMore
open Go.Proofs.Ytcpojohpmcnnhaa.PA Go.Proofs.Ytcpojohpmcnnhaa.A
def bitsS (s : ByteArray) : Bool := bitsB s.data.toList
def tapB (x : Int) : Bool := decide (1 ≤ x) && decide (x ≤ 15)
theorem areTaps_all (x y : Int) : code_areTaps.f x y = some (tapB x && tapB y) := by
  unfold code_areTaps.f
  rw [within_all]
  simp only [Option.bind_some]
  by_cases h : tapB x = true
  · have h' : (decide (1 ≤ x) && decide (x ≤ 15)) = true := h
    rw [if_pos h', within_all, h]; rfl
  · have h' : ¬ (decide (1 ≤ x) && decide (x ≤ 15)) = true := h
    rw [if_neg h']
    have : tapB x = false := by simpa using h
    rw [this]; rfl
theorem bt_nat (s : ByteArray) {q : Nat} (h : q < s.size) : bt s (q : Int) = ((s.data.toList.getD q 0).toNat : Int) := by
  unfold bt
  rw [Int.toNat_natCast, dif_pos h, List.getD_eq_getElem?_getD, Array.getElem?_toList, Array.getElem?_eq_getElem (show q < s.data.size from h)]
  rfl
theorem bitsB_step {l : List UInt8} {q : Nat} (h : q < l.length) : bitsB (l.drop q) = ((l.getD q 0 == 48 || l.getD q 0 == 49) && bitsB (l.drop (q + 1))) := by
  rw [drop_cons h 0]
  simp only [bitsB, List.all_cons]
theorem bits_ev (s : ByteArray) (hs : s.size ≤ 1000000) : Ev (fun k => code_isBits.f k s) (bitsS s) := by
  have hl : s.data.toList.length = s.size := by rw [Array.length_toList]; rfl
  have key : ∀ e q, q + e = s.size → Ev (fun k => code_isBits.l0 k s (s.size : Int) (q : Int)) (bitsB (s.data.toList.drop q)) := by
    intro e
    induction e with
    | zero =>
      intro q hq
      refine Ev.step (fun k => ?_) (Ev.now _)
      rw [code_isBits.l0, if_neg (by omega), List.drop_of_length_le (by omega)]; rfl
    | succ e ih =>
      intro q hq
      have h1 := ih (q + 1) (by omega)
      rw [bitsB_step (by omega)]
      have hst : ∀ k, code_isBits.l0 (k + 1) s (s.size : Int) (q : Int) = if ((s.data.toList.getD q 0).toNat : Int) = 48 then code_isBits.l0 k s (s.size : Int) ((q + 1 : Nat) : Int) else if ((s.data.toList.getD q 0).toNat : Int) = 49 then code_isBits.l0 k s (s.size : Int) ((q + 1 : Nat) : Int) else some false := fun k => by
        rw [code_isBits.l0, if_pos (by omega), if_pos (by omega), if_pos (by omega), bt_nat s (by omega), w1 (by omega)]
      generalize s.data.toList.getD q 0 = c at *
      by_cases c1 : c = 48
      · refine Ev.step (fun k => ?_) (by rw [c1]; exact h1)
        rw [hst, if_pos (by rw [c1]; rfl)]
      · have n1 : ¬ ((c.toNat : Int) = 48) := fun h => c1 (UInt8.toNat_inj.1 (by rw [show c.toNat = 48 by omega]; rfl))
        by_cases c2 : c = 49
        · refine Ev.step (fun k => ?_) (by rw [c2]; exact h1)
          rw [hst, if_neg n1, if_pos (by rw [c2]; rfl)]
        · have n2 : ¬ ((c.toNat : Int) = 49) := fun h => c2 (UInt8.toNat_inj.1 (by rw [show c.toNat = 49 by omega]; rfl))
          refine Ev.step (fun k => ?_) (Ev.now _)
          rw [hst, if_neg n1, if_neg n2]
          have : (c == 48 || c == 49) = false := by simp [c1, c2]
          rw [this]; rfl
  have := key s.size 0 (by omega)
  rw [List.drop_zero] at this
  exact this
def cardS (s : ByteArray) (x y : Int) : ByteArray := ⟨(cardB x.toNat y.toNat (msgL s) (s.size + 3)).toArray⟩
def goodS (s : ByteArray) (x y : Int) : Bool := decide (s.size ≤ 64) && bitsS s && tapB x && tapB y
theorem tapsCard_f {s : ByteArray} {x y : Int} (h : goodS s x y = true) : code_taps_card.f x y s = some (cardS s x y) := by
  unfold goodS at h
  simp only [Bool.and_eq_true, decide_eq_true_eq] at h
  obtain ⟨⟨⟨h1, h2⟩, h3⟩, h4⟩ := h
  unfold tapB at h3 h4
  simp at h3 h4
  unfold code_taps_card.f
  rw [if_pos ⟨⟨by omega, by omega, by omega, by omega⟩, h2, by omega⟩]
  rfl
def cardR (s : ByteArray) (x y : Int) : ByteArray × Int := if goodS s x y = true then (cardS s x y, 0) else (⟨#[]⟩, 2)
theorem card_ev (s : ByteArray) (x y : Int) (hs : s.size ≤ 1000000) : Ev (fun k => code_Card.f k s x y) (cardR s x y) := by
  unfold cardR
  by_cases h1 : (s.size : Int) > 64
  · have hg : ¬ goodS s x y = true := by unfold goodS; simp; omega
    rw [if_neg hg]
    refine Ev.congr (fun k => ?_) (Ev.now _)
    unfold code_Card.f
    rw [if_pos h1]
  · have hg1 : decide (s.size ≤ 64) = true := decide_eq_true (by omega)
    refine Ev.congr (fun k => ?_) (Ev.bind (f := fun k (t141 : Bool) => (if t141 = true then ((code_areTaps.f x y).bind fun t142 => (if t142 = true then ((code_taps_card.f x y s).bind fun t143 => (some (t143, (0 : Int)))) else (some ((⟨#[]⟩ : ByteArray), (2 : Int))))) else (some ((⟨#[]⟩ : ByteArray), (2 : Int))))) (bits_ev s hs) ?_)
    · unfold code_Card.f
      rw [if_neg h1]
    · by_cases h2 : bitsS s = true
      · simp only [h2, if_true, areTaps_all, Option.bind_some]
        by_cases h3 : (tapB x && tapB y) = true
        · have hg : goodS s x y = true := by
            unfold goodS
            rw [hg1, h2, Bool.true_and, Bool.true_and]; exact h3
          simp only [if_pos h3, tapsCard_f hg, Option.bind_some, if_pos hg]
          exact Ev.now _
        · have hg : ¬ goodS s x y = true := by
            unfold goodS
            rw [hg1, h2, Bool.true_and, Bool.true_and]; exact h3
          simp only [if_neg h3, if_neg hg]
          exact Ev.now _
      · have hg : ¬ goodS s x y = true := by
          unfold goodS
          simp only [Bool.and_eq_true]
          rintro ⟨⟨⟨_, h⟩, _⟩, _⟩
          exact h2 h
        simp only [if_neg h2, if_neg hg]
        exact Ev.now _
end Go.Proofs.Ytcpojohpmcnnhaa.L

namespace Go.Proofs.Ytcpojohpmcnnhaa.PA
open Go.RowKit Go.Proofs.YtcpojohpmcnnhaaW.PrintWords Go.Proofs.YtcpojohpmcnnhaaW.PrintLast Go.Proofs.YtcpojohpmcnnhaaW.PrintMore
attribute [local go_sem] max2_int min2_int max_two min_two max_three min_three max_four min_four
set_option linter.unusedVariables false
set_option linter.unusedSimpArgs false
def turndownlaw06_mod.f (a0 : Int) (a1 : Int) : Option (Int) := if (IntKind.u64.wrap (a1)) = 0 then (none) else (some (wrap64 (Int.tmod (IntKind.u64.wrap (a0)) (IntKind.u64.wrap (a1)))))
set_option maxHeartbeats 8000000 in
set_option maxRecDepth 100000 in
theorem turndownlaw06_mod.calls (a0 : Int) (a1 : Int) (r : Int) (w : World) (h : turndownlaw06_mod.f a0 a1 = some r) :
  Calls Try.prog 39 #[.int .i64 a0, .int .i64 a1] w fun e w' => e = .returned (.int .i64 r) ∧ Drawn0 w w' := by
 have H : (if (IntKind.u64.wrap (a1)) = 0 then (none) else (some (wrap64 (Int.tmod (IntKind.u64.wrap (a0)) (IntKind.u64.wrap (a1)))))) = some r := h
 clear h
 by_cases c3 : (IntKind.u64.wrap (a1)) = 0
 ·
  rw [if_pos c3] at H
  exact absurd H (by simp)
 ·
  rw [if_neg c3] at H
  have c3b0 : ((IntKind.u64.wrap (a1)) == 0) = false := beq_eq_false_iff_ne.mpr c3
  have c3b1 : ((IntKind.u64.wrap (a1)) != 0) = true := bne_iff_ne.mpr c3
  obtain rfl := Option.some.inj H
  go_enter Try.func39, Try.ntmps39
  go_wp2
  go_ret
  exact ⟨by first | rfl | (simp; done) | (simp [*]; done), by repeat (first | exact Drawn0.refl _ | apply Drawn0.step)⟩
end Go.Proofs.Ytcpojohpmcnnhaa.PA

set_option linter.unusedVariables false
set_option linter.unusedSimpArgs false
namespace Go.Proofs.Ytcpojohpmcnnhaa.L
open Go.RowKit Go.Proofs.YtcpojohpmcnnhaaW.PrintWords Go.Proofs.YtcpojohpmcnnhaaW.PrintLast Go.Proofs.YtcpojohpmcnnhaaW.PrintMore
open Go.Proofs.Ytcpojohpmcnnhaa.PA Go.Proofs.Ytcpojohpmcnnhaa.A Go.Proofs.Ytcpojohpmcnnhaa.K
def modI (x n : Int) : Int := Int.tmod (IntKind.u64.wrap x) n
theorem u64_nn (x : Int) : 0 ≤ IntKind.u64.wrap x := by
  have e : IntKind.u64.wrap x = x % 18446744073709551616 := by simp [IntKind.wrap, IntKind.bits, IntKind.signed]
  rw [e]; omega
theorem u64_small {x : Int} (h : 0 ≤ x) (h2 : x ≤ 1000000000000) : IntKind.u64.wrap x = x := by
  have e : IntKind.u64.wrap x = x % 18446744073709551616 := by simp [IntKind.wrap, IntKind.bits, IntKind.signed]
  rw [e]; omega
theorem modI_bd (x : Int) {n : Int} (h : 1 ≤ n) : 0 ≤ modI x n ∧ modI x n < n := by
  unfold modI
  have h0 := u64_nn x
  rw [Int.tmod_eq_emod_of_nonneg h0]
  exact ⟨Int.emod_nonneg _ (by omega), Int.emod_lt_of_pos _ (by omega)⟩
theorem mod_all (x : Int) {n : Int} (h : 1 ≤ n) (h2 : n ≤ 1000000000000) : turndownlaw06_mod.f x n = some (modI x n) := by
  unfold turndownlaw06_mod.f
  rw [u64_small (by omega) h2, if_neg (by omega)]
  have := modI_bd x h
  unfold modI at this ⊢
  congr 1
  unfold wrap64
  omega
theorem getD_mem {l : List Int} {s : Nat} (hs : s < l.length) : l.getD s 0 ∈ l := by
  rw [List.getD_eq_getElem?_getD, List.getElem?_eq_getElem hs]
  exact List.getElem_mem hs
end Go.Proofs.Ytcpojohpmcnnhaa.L

namespace Go.Proofs.Ytcpojohpmcnnhaa.PA
open Go.RowKit Go.Proofs.YtcpojohpmcnnhaaW.PrintWords Go.Proofs.YtcpojohpmcnnhaaW.PrintLast Go.Proofs.YtcpojohpmcnnhaaW.PrintMore
attribute [local go_sem] max2_int min2_int max_two min_two max_three min_three max_four min_four
set_option linter.unusedVariables false
set_option linter.unusedSimpArgs false
def turndownlaw06_bits.l0 : Nat → ByteArray → Int → List Int → Int → Option (ByteArray)
 | 0, _, _, _, _ => none
 | k + 1, x0, x1, x5, x6 => if x6 < (x0.size : Int) then (if x6 < x1 then (if 0 ≤ x6 then (if x5.length < 140737488355328 then (turndownlaw06_bits.l0 k x0 x1 (x5 ++ [(48 + (Int.tmod (bt x0 x6) 2)) % 256]) (wrap64 (x6 + 1))) else (none)) else (none)) else (some (strOfNums x5))) else (some (strOfNums x5))
def turndownlaw06_bits.f (k : Nat) (a0 : ByteArray) (a1 : Int) : Option (ByteArray) := turndownlaw06_bits.l0 k a0 a1 ([] : List Int) 0
set_option maxHeartbeats 8000000 in
set_option maxRecDepth 100000 in
theorem turndownlaw06_bits.calls (k : Nat) (a0 : ByteArray) (a1 : Int) (r : ByteArray) (w : World) (h : turndownlaw06_bits.f k a0 a1 = some r) :
  Calls Try.prog 41 #[.string a0, .int .i64 a1] w fun e w' => e = .returned (.string r) ∧ Below w.heap.size w w' := by
 have HB := Aside0.mk (Below.refl w.heap.size w)
 have H : (turndownlaw06_bits.l0 k a0 a1 ([] : List Int) 0) = some r := h
 clear h
 have H' := Aside0.mk H
 clear H
 go_enter Try.func41, Try.ntmps41
 go_wp2
 go_loopg [5, 6] k (fun kq v5 v6 w' => ∃ (x5_1 : List Int) (x6_1 : Int), v6 = .int .i64 x6_1 ∧ Aside0 (turndownlaw06_bits.l0 kq a0 a1 x5_1 x6_1 = some r) ∧ Aside0 (kq ≤ k) ∧ Aside0 (Kd.R (Kd.int .u8) 5 w' w.heap.size (fun _ => True) v5 x5_1) ∧ Aside0 (Below w.heap.size w w'))
 case atStart => exact ⟨(([] : List Int)), (0), (by first | rfl | (simp; done) | (simp [*]; done)), H', ⟨Nat.le_refl _⟩, ⟨by first | exact Kd.R_nil _ _ _ _ _ | exact Kd.N_nil _ _ _ _ _ | exact Kd.V_nil _ _ _ _ _ | exact Kd.Q_nil _ _ _ _ _ | exact Kd.S_nil _ _ _ _ _⟩, ⟨by repeat (first | (with_reducible first | exact HB.out | apply below_alloc | apply pw_below_drewN | apply below_drew1) | exact HB.out)⟩⟩
 case round =>
  clear H'
  try clear p2
  obtain ⟨x5_1, x6_1, rfl, HA, HK1, HO_5, HB⟩ := hrel
  cases gk with
  | zero => exact absurd HA.out (by simp [turndownlaw06_bits.l0])
  | succ k1 =>
   have H := HA.out
   clear HA
   simp only [turndownlaw06_bits.l0] at H
   by_cases c3 : x6_1 < (a0.size : Int)
   ·
    rw [if_pos c3] at H
    have c3b0 : decide (x6_1 < (a0.size : Int)) = true := decide_eq_true c3
    clear c3
    by_cases c4 : x6_1 < a1
    ·
     rw [if_pos c4] at H
     have c4b0 : decide (x6_1 < a1) = true := decide_eq_true c4
     clear c4
     by_cases c5 : 0 ≤ x6_1
     ·
      rw [if_pos c5] at H
      have c5b0 : decide (0 ≤ x6_1) = true := decide_eq_true c5
      clear c5
      by_cases c7 : x5_1.length < 140737488355328
      ·
       rw [if_pos c7] at H
       have LMc7 := Aside0.mk c7
       clear c7
       obtain ⟨y422, hy422⟩ : ∃ y_ : List Int, y_ = (x5_1 ++ [(48 + (Int.tmod (bt a0 x6_1) 2)) % 256]) := ⟨_, rfl⟩
       replace H : (turndownlaw06_bits.l0 k1 a0 a1 y422 (wrap64 (x6_1 + 1))) = some r := by first | (rw [hy422]; with_reducible exact H) | (have H2_ := (Option.bind_some _ _).symm.trans H; rw [hy422]; with_reducible exact H2_) | (have H2_ := (Option.bind_some _ _).symm.trans H; with_reducible exact H2_) | with_reducible exact H | (rw [hy422]; exact H) | exact H
       have Ny422 := Aside0.mk hy422
       clear hy422
       have H' := Aside0.mk H
       clear H
       have p6 : 0 ≤ (x6_1 : Int) := of_decide_eq_true (by first | (with_reducible assumption) | assumption)
       have q6 : x6_1 < (a0.size : Int) := of_decide_eq_true (by first | (with_reducible assumption) | assumption)
       have hx6 := bt_at a0 x6_1
       replace p6 := eq_true p6
       replace q6 := eq_true q6
       go_wp2_with (first | ((with_reducible refine gate_builtin (b := .append) (xs := #[.tmp 18, .tmp 24]) rfl ?_); at_builtin; refine Kd.R_append (Kd.int .u8) (w0 := w) w.heap.size rfl (.tmp 18) (.tmp 24) 59 5 (.int .u8 0) 1 rfl Try.underlying59 info5 rfl (by decide) (by omega) u5 x5_1 ((48 + (Int.tmod (bt a0 x6_1) 2)) % 256) [.int .u8 ((48 + (Int.tmod (bt a0 x6_1) 2)) % 256)] (fun _ => True) (fun _ => False) rfl rfl ?aP (fun _ hk => hk.elim) ?aF ?aO ?aB ?aS ?aL ?_; (case aP => exact rfl); (case aB => exact (by repeat (first | (with_reducible first | exact HB.out | apply below_alloc | apply pw_below_drewN | apply below_drew1) | exact HB.out))); (case aF => exact (fun _ _ => trivial)); (case aO => exact (by (with_reducible repeat (first | apply Kd.R_alloc | apply Kd.R_drewN | apply Kd.R_drew)); exact HO_5.out)); (case aS => exact (below_size (by repeat (first | (with_reducible first | exact HB.out | apply below_alloc | apply pw_below_drewN | apply below_drew1) | exact HB.out)))); (case aL => have := LMc7.out; omega); intro v423 w8 ho hb hg hat; rw [← Ny422.out] at ho; have n0_ := Aside0.mk (hb); have n1_ := Aside0.mk (ho); clear HB; clear HO_5; have HB := n0_; have HO424 := n1_; clear n0_ n1_; clear ho hb hg hat))
       go_roundg k1
       case measure => have := HK1.out; omega
       case rel => exact ⟨(y422), (wrap64 (x6_1 + 1)), (by first | rfl | (simp; done) | (simp [*]; done)), H', ⟨by have := HK1.out; omega⟩, ⟨by (with_reducible repeat (first | apply Kd.R_alloc | apply Kd.R_drewN | apply Kd.R_drew)); exact HO424.out⟩, ⟨by repeat (first | (with_reducible first | exact HB.out | apply below_alloc | apply pw_below_drewN | apply below_drew1) | exact HB.out)⟩⟩
      ·
       rw [if_neg c7] at H
       exact absurd H (by simp)
     ·
      rw [if_neg c5] at H
      exact absurd H (by simp)
    ·
     rw [if_neg c4] at H
     have c4b0 : decide (x6_1 < a1) = false := decide_eq_false c4
     clear c4
     obtain rfl := Option.some.inj H
     have hcv9 := own_string (P := Try.prog) Try.underlying59 Try.underlying5 Try.underlying9 (Kd.own_of_R HO_5.out)
     go_wp2
     go_ret
     exact ⟨by first | rfl | (simp [errW_none, errW_some] <;> rfl) | (simp [*, errW_none, errW_some] <;> rfl), by repeat (first | (with_reducible first | exact HB.out | apply below_alloc | apply pw_below_drewN | apply below_drew1) | exact HB.out)⟩
   ·
    rw [if_neg c3] at H
    have c3b0 : decide (x6_1 < (a0.size : Int)) = false := decide_eq_false c3
    clear c3
    obtain rfl := Option.some.inj H
    have hcv10 := own_string (P := Try.prog) Try.underlying59 Try.underlying5 Try.underlying9 (Kd.own_of_R HO_5.out)
    go_wp2
    go_ret
    exact ⟨by first | rfl | (simp [errW_none, errW_some] <;> rfl) | (simp [*, errW_none, errW_some] <;> rfl), by repeat (first | (with_reducible first | exact HB.out | apply below_alloc | apply pw_below_drewN | apply below_drew1) | exact HB.out)⟩
end Go.Proofs.Ytcpojohpmcnnhaa.PA

set_option linter.unusedVariables false
set_option linter.unusedSimpArgs false
namespace Go.Proofs.Ytcpojohpmcnnhaa.L
open Go.RowKit Go.Proofs.YtcpojohpmcnnhaaW.PrintWords Go.Proofs.YtcpojohpmcnnhaaW.PrintLast Go.Proofs.YtcpojohpmcnnhaaW.PrintMore
open Go.Proofs.Ytcpojohpmcnnhaa.PA Go.Proofs.Ytcpojohpmcnnhaa.A
theorem loop_toList (a : ByteArray) : ∀ d i r, i + d = a.size → ByteArray.toList.loop a i r = r.reverse ++ a.data.toList.drop i
  | 0, i, r, h => by
    have hl : a.data.toList.length = a.size := by rw [Array.length_toList]; rfl
    unfold ByteArray.toList.loop
    rw [if_neg (by omega), List.drop_of_length_le (by omega), List.append_nil]
  | d + 1, i, r, h => by
    have hl : a.data.toList.length = a.size := by rw [Array.length_toList]; rfl
    have ih := loop_toList a d (i + 1) (a.get! i :: r) (by omega)
    unfold ByteArray.toList.loop
    rw [if_pos (by omega), ih]
    have e : a.get! i = a.data.toList[i]'(by omega) := by
      have hi : i < a.data.size := by rw [← Array.length_toList]; omega
      show a.data[i]! = _
      rw [getElem!_pos a.data i hi]
      rfl
    rw [List.drop_eq_getElem_cons (show i < a.data.toList.length by omega), e]
    simp
theorem toList_data (a : ByteArray) : a.toList = a.data.toList := by
  have := loop_toList a a.size 0 [] (by omega)
  unfold ByteArray.toList
  rw [this]; simp
theorem toList_inj {a b : ByteArray} (h : a.toList = b.toList) : a = b := by
  rw [toList_data, toList_data] at h
  exact Go.WideShapes.bytes_inj h
theorem data_len (s : ByteArray) : s.data.toList.length = s.size := by rw [Array.length_toList]; rfl
theorem list_size (l : List UInt8) : (⟨l.toArray⟩ : ByteArray).size = l.length := by
  rw [← data_len]
theorem msg_ev (s : ByteArray) {most : Nat} (hm : most ≤ 1000) : ∃ m, Ev (fun k => turndownlaw06_bits.f k s (most : Int)) m ∧ m.size ≤ most ∧ bitsS m = true := by
  have fin : ∀ acc : List UInt8, bitsB acc = true → acc.length ≤ most → (⟨acc.toArray⟩ : ByteArray).size ≤ most ∧ bitsS ⟨acc.toArray⟩ = true := by
    intro acc h1 h2
    refine ⟨by rw [list_size]; exact h2, ?_⟩
    unfold bitsS
    exact h1
  have key : ∀ e q acc, q + e = most → acc.length = q → bitsB acc = true → ∃ m, Ev (fun k => turndownlaw06_bits.l0 k s (most : Int) (u8s acc) (q : Int)) m ∧ m.size ≤ most ∧ bitsS m = true := by
    intro e
    induction e with
    | zero =>
      intro q acc hq hl hb
      refine ⟨⟨acc.toArray⟩, Ev.step (fun k => ?_) (Ev.now _), fin acc hb (by omega)⟩
      rw [turndownlaw06_bits.l0, if_neg (show ¬ (q : Int) < (most : Int) by omega), strOf_u8s]
      split <;> rfl
    | succ e ih =>
      intro q acc hq hl hb
      by_cases hs : q < s.size
      · obtain ⟨c, hc⟩ : ∃ c : UInt8, c = UInt8.ofNat (48 + (s.data.toList.getD q 0).toNat % 2) := ⟨_, rfl⟩
        have hcn : c.toNat = 48 + (s.data.toList.getD q 0).toNat % 2 := by rw [hc]; simp; omega
        have hcb : (c == 48 || c == 49) = true := by
          rcases (by omega : c.toNat = 48 ∨ c.toNat = 49) with h | h
          · have : c = 48 := UInt8.toNat_inj.1 (by rw [h]; rfl)
            simp [this]
          · have : c = 49 := UInt8.toNat_inj.1 (by rw [h]; rfl)
            simp [this]
        obtain ⟨m, hm1, hm2, hm3⟩ := ih (q + 1) (acc ++ [c]) (by omega) (by simp; omega) (by unfold bitsB at *; rw [List.all_append, hb]; simpa using hcb)
        refine ⟨m, Ev.step (fun k => ?_) hm1, hm2, hm3⟩
        have hu : u8s acc ++ [(48 + (Int.tmod (bt s (q : Int)) 2)) % 256] = u8s (acc ++ [c]) := by
          unfold u8s
          rw [List.map_append, bt_nat s hs]
          congr 1
          simp only [List.map_cons, List.map_nil, List.cons.injEq, and_true]
          rw [Int.tmod_eq_emod_of_nonneg (by omega)]
          omega
        have hul : (u8s acc).length = q := by unfold u8s; rw [List.length_map]; exact hl
        rw [turndownlaw06_bits.l0, if_pos (by omega), if_pos (by omega), if_pos (by omega), if_pos (by omega), hu, w1 (by omega)]
      · refine ⟨⟨acc.toArray⟩, Ev.step (fun k => ?_) (Ev.now _), fin acc hb (by omega)⟩
        rw [turndownlaw06_bits.l0, if_neg (by omega), strOf_u8s]
  exact key most 0 [] (by omega) rfl rfl
theorem chB_bit (g v : Nat) : (chB g v == 48 || chB g v == 49) = true := by
  have h1 := chB_nat g v
  have h2 := parN_01 g v
  rcases (by omega : (chB g v).toNat = 48 ∨ (chB g v).toNat = 49) with h | h
  · have : chB g v = 48 := UInt8.toNat_inj.1 (by rw [h]; rfl)
    simp [this]
  · have : chB g v = 49 := UInt8.toNat_inj.1 (by rw [h]; rfl)
    simp [this]
theorem card_bits (g h : Nat) (l : List UInt8) : ∀ k, bitsB (cardB g h l k) = true
  | 0 => rfl
  | k + 1 => by
    have ih := card_bits g h l k
    unfold bitsB at *
    rw [cardB, List.all_append, ih]
    simp only [List.all_cons, List.all_nil, chB_bit]
    rfl
theorem cardS_size (s : ByteArray) (x y : Int) : (cardS s x y).size = 2 * s.size + 6 := by
  unfold cardS
  rw [list_size, card_len]; omega
theorem cardS_bits (s : ByteArray) (x y : Int) : bitsB (cardS s x y).data.toList = true := by
  unfold cardS
  exact card_bits _ _ _ _
def sumS (a b : ByteArray) : ByteArray := ⟨(sumB a.data.toList b.data.toList).toArray⟩
theorem sumS_size {a b : ByteArray} (h : a.size = b.size) : (sumS a b).size = a.size := by
  unfold sumS sumB
  rw [list_size, List.length_zipWith, data_len, data_len]; omega
theorem msg_sum {a b : ByteArray} (h : a.size = b.size) : sumB (msgL a) (msgL b) = msgL (sumS a b) := by
  unfold msgL
  rw [sum_app (by rw [data_len, data_len]; exact h)]
  rfl
theorem dist_self (p : List UInt8) : ∀ k, distB p p k = 0
  | 0 => rfl
  | k + 1 => by rw [distB, dist_self p k, if_pos rfl]; rfl
theorem first_one {z : List UInt8} : ∀ n, (∃ j, j < n ∧ (z.getD j 48).toNat ≠ 48) → ∃ i, i < n ∧ (z.getD i 48).toNat ≠ 48 ∧ ∀ j, j < i → (z.getD j 48).toNat = 48
  | 0, h => by obtain ⟨j, hj, _⟩ := h; omega
  | n + 1, h => by
    by_cases hn : ∃ j, j < n ∧ (z.getD j 48).toNat ≠ 48
    · obtain ⟨i, h1, h2, h3⟩ := first_one n hn
      exact ⟨i, by omega, h2, h3⟩
    · obtain ⟨j, hj, hz⟩ := h
      have : j = n := by
        by_cases hjn : j < n
        · exact absurd ⟨j, hjn, hz⟩ hn
        · omega
      subst this
      refine ⟨j, hj, hz, fun i hi => ?_⟩
      by_cases h4 : (z.getD i 48).toNat = 48
      · exact h4
      · exact absurd ⟨i, hi, h4⟩ hn
theorem card_far {a b : ByteArray} {x y : Int} (hx : 1 ≤ x ∧ x ≤ 15) (hy : 1 ≤ y ∧ y ≤ 15) (h : a.size = b.size) (ha : bitsS a = true) (hb : bitsS b = true) (hs : a.size ≤ 64) (hne : a ≠ b) : (freeS x.toNat y.toNat 64).1 ≤ distB (cardS a x y).data.toList (cardS b x y).data.toList (2 * (a.size + 3)) := by
  have e := dist_card (g := x.toNat) (h := y.toNat) (a := msgL a) (b := msgL b) (n := a.size + 3) (by omega) (by omega) (by rw [msg_len, msg_len]; omega) (msg_bits ha) (msg_bits hb) (a.size + 3) (Nat.le_refl _)
  have e1 : (cardS a x y).data.toList = cardB x.toNat y.toNat (msgL a) (a.size + 3) := rfl
  have e2 : (cardS b x y).data.toList = cardB x.toNat y.toNat (msgL b) (a.size + 3) := by rw [h]; rfl
  rw [e1, e2, e, msg_sum h]
  have hzb : bitsB (msgL (sumS a b)) = true := msg_bits bits_sum
  have hzl := sumS_size h
  have hlen := msg_len (sumS a b)
  have htail : ∀ j, a.size ≤ j → ((msgL (sumS a b)).getD j 48).toNat = 48 := by
    intro j hj
    unfold msgL
    rw [List.getD_eq_getElem?_getD, List.getElem?_append_right (by rw [data_len]; omega)]
    rw [data_len, hzl]
    match j - a.size with
    | 0 | 1 | 2 => rfl
    | t + 3 => rfl
  have hex : ∃ j, j < a.size ∧ ((msgL (sumS a b)).getD j 48).toNat ≠ 48 := by
    refine Classical.byContradiction fun hno => hne ?_
    refine Go.WideShapes.bytes_inj (List.ext_getElem? fun i => ?_)
    by_cases hi : i < a.size
    · have h1 : ((msgL (sumS a b)).getD i 48).toNat = 48 := by
        by_cases h4 : ((msgL (sumS a b)).getD i 48).toNat = 48
        · exact h4
        · exact absurd ⟨i, hi, h4⟩ hno
      have h2 := sumB_getD (a := a.data.toList) (b := b.data.toList) (by rw [data_len, data_len]; exact h) ha hb i
      have h3 : (msgL (sumS a b)).getD i 48 = (sumB a.data.toList b.data.toList).getD i 48 := by
        unfold msgL
        rw [List.getD_eq_getElem?_getD, List.getElem?_append_left (by rw [data_len]; omega), List.getD_eq_getElem?_getD]
        rfl
      rw [← h3, h1] at h2
      have b1 := bit_nat ha i
      have b2 := bit_nat hb i
      have h5 : a.data.toList.getD i 48 = b.data.toList.getD i 48 := UInt8.toNat_inj.1 (by omega)
      rw [List.getD_eq_getElem?_getD, List.getD_eq_getElem?_getD, List.getElem?_eq_getElem (by rw [data_len]; omega), List.getElem?_eq_getElem (by rw [data_len]; omega)] at h5
      simp only [Option.getD_some] at h5
      rw [List.getElem?_eq_getElem (by rw [data_len]; omega), List.getElem?_eq_getElem (by rw [data_len]; omega), h5]
    · rw [List.getElem?_eq_none (by rw [data_len]; omega), List.getElem?_eq_none (by rw [data_len]; omega)]
  obtain ⟨i, h1, h2, h3⟩ := first_one _ hex
  have h4 := bit_nat hzb i
  exact free_least hzb hs h1 h3 (by omega) htail
end Go.Proofs.Ytcpojohpmcnnhaa.L

set_option linter.unusedVariables false
set_option linter.unusedSimpArgs false
namespace Go.Proofs.Ytcpojohpmcnnhaa.L
open Go.RowKit Go.Proofs.YtcpojohpmcnnhaaW.PrintWords Go.Proofs.YtcpojohpmcnnhaaW.PrintLast Go.Proofs.YtcpojohpmcnnhaaW.PrintMore
open Go.Proofs.Ytcpojohpmcnnhaa.PA Go.Proofs.Ytcpojohpmcnnhaa.A
def VR (g h : Nat) (s : ByteArray) (n i t : Nat) : Int := (rowR g h s n i).getD t 0
theorem step_bd (g h : Nat) (s : ByteArray) (i v : Nat) : 0 ≤ stepI g h s i v ∧ stepI g h s i v ≤ 2 := by
  unfold stepI; exact differ_bd _ _ _ _
theorem VR_end (g h : Nat) (s : ByteArray) (n t : Nat) : VR g h s n n t = 0 := by
  unfold VR
  rw [rowR_end]
  match t with
  | 0 | 1 | 2 | 3 | 4 | 5 | 6 | 7 => rfl
  | t + 8 => rfl
theorem VR_bell (g h : Nat) (s : ByteArray) {n i t : Nat} (hi : i < n) (ht : t < 8) : VR g h s n i t = if n ≤ i + 3 then min 1048576 (stepI g h s (2 * i) (2 * t) + VR g h s n (i + 1) (2 * t % 8)) else min (min 1048576 (stepI g h s (2 * i) (2 * t) + VR g h s n (i + 1) (2 * t % 8))) (stepI g h s (2 * i) (2 * t + 1) + VR g h s n (i + 1) ((2 * t + 1) % 8)) := by
  have e : VR g h s n i t = backC g h s (rowR g h s n (i + 1)) (2 * i) (decide ((n : Int) - 3 ≤ (i : Int))) t 2 := by
    unfold VR
    rw [rowR_step g h s hi]
    unfold backK
    rw [List.getD_eq_getElem?_getD, List.getElem?_map, List.getElem?_range ht]
    simp only [Option.map_some, Option.getD_some]
    rw [if_pos ht]
  have e1 : backC g h s (rowR g h s n (i + 1)) (2 * i) (decide ((n : Int) - 3 ≤ (i : Int))) t 1 = min 1048576 (stepI g h s (2 * i) (2 * t) + VR g h s n (i + 1) (2 * t % 8)) := by
    rw [backC, if_neg (by rintro ⟨_, h⟩; omega), backC]; rfl
  rw [e, backC, e1]
  by_cases hl : n ≤ i + 3
  · rw [if_pos hl, if_pos ⟨decide_eq_true (by omega), rfl⟩]
  · rw [if_neg hl, if_neg (by rintro ⟨h, _⟩; have := of_decide_eq_true h; omega)]; rfl
theorem VR_bd (g h : Nat) (s : ByteArray) {n : Nat} (hn : n ≤ 1000) : ∀ d i t, i + d = n → t < 8 → 0 ≤ VR g h s n i t ∧ VR g h s n i t ≤ 2 * (d : Int)
  | 0, i, t, hi, ht => by
    obtain rfl : i = n := by omega
    rw [VR_end]; omega
  | d + 1, i, t, hi, ht => by
    have ih := VR_bd g h s hn d (i + 1)
    have h0 := ih (2 * t % 8) (by omega) (by omega)
    have h1 := ih ((2 * t + 1) % 8) (by omega) (by omega)
    have s0 := step_bd g h s (2 * i) (2 * t)
    have s1 := step_bd g h s (2 * i) (2 * t + 1)
    rw [VR_bell g h s (by omega) ht]
    split <;> omega
theorem VR_last (g h : Nat) (s : ByteArray) {n i t : Nat} (hn : n ≤ 1000) (hi : i < n) (ht : t < 8) (hl : n ≤ i + 3) : VR g h s n i t = stepI g h s (2 * i) (2 * t) + VR g h s n (i + 1) (2 * t % 8) := by
  have h0 := VR_bd g h s hn (n - (i + 1)) (i + 1) (2 * t % 8) (by omega) (by omega)
  have s0 := step_bd g h s (2 * i) (2 * t)
  rw [VR_bell g h s hi ht, if_pos hl]
  omega
theorem VR_free (g h : Nat) (s : ByteArray) {n i t : Nat} (hn : n ≤ 1000) (hi : i < n) (ht : t < 8) (hl : ¬ n ≤ i + 3) : VR g h s n i t = min (stepI g h s (2 * i) (2 * t) + VR g h s n (i + 1) (2 * t % 8)) (stepI g h s (2 * i) (2 * t + 1) + VR g h s n (i + 1) ((2 * t + 1) % 8)) := by
  have h0 := VR_bd g h s hn (n - (i + 1)) (i + 1) (2 * t % 8) (by omega) (by omega)
  have s0 := step_bd g h s (2 * i) (2 * t)
  rw [VR_bell g h s hi ht, if_neg hl]
  omega
def dW (g h : Nat) (s : ByteArray) (z : List UInt8) : Nat → Int
  | 0 => 0
  | k + 1 => dW g h s z k + stepI g h s (2 * k) (winN z (k + 1))
theorem read_low {g h : Nat} {s : ByteArray} {n : Nat} (hn : n ≤ 1000) {z : List UInt8} (hz : bitsB z = true) (ht : ∀ j, n ≤ j + 3 → (z.getD j 48).toNat = 48) : ∀ d i, i + d = n → VR g h s n i (winN z i % 8) + dW g h s z i ≤ dW g h s z n
  | 0, i, hi => by
    obtain rfl : i = n := by omega
    rw [VR_end]; omega
  | d + 1, i, hi => by
    have ih := read_low (g := g) (h := h) (s := s) hn hz ht d (i + 1) (by omega)
    have hb := bit_nat hz i
    have e : dW g h s z (i + 1) = dW g h s z i + stepI g h s (2 * i) (winN z (i + 1)) := rfl
    by_cases hl : n ≤ i + 3
    · have hv : winN z (i + 1) = 2 * (winN z i % 8) := by rw [winN, ht i hl]; omega
      rw [VR_last g h s hn (by omega) (by omega) hl]
      rw [hv] at ih e
      omega
    · rw [VR_free g h s hn (by omega) (by omega) hl]
      rcases hb with hb | hb
      · have hv : winN z (i + 1) = 2 * (winN z i % 8) := by rw [winN, hb]; omega
        rw [hv] at ih e
        omega
      · have hv : winN z (i + 1) = 2 * (winN z i % 8) + 1 := by rw [winN, hb]; omega
        rw [hv] at ih e
        omega
theorem msgR_at (g h : Nat) (s : ByteArray) (n : Nat) : ∀ k i, i < k → (msgR g h s n k).getD i 48 = UInt8.ofNat (48 + bitR g h s n i (stR g h s n i))
  | 0, i, hi => by omega
  | k + 1, i, hi => by
    have hl := msgR_len g h s n k
    rw [msgR, List.getD_eq_getElem?_getD]
    by_cases h1 : i < k
    · rw [List.getElem?_append_left (by omega), ← List.getD_eq_getElem?_getD]
      exact msgR_at g h s n k i h1
    · obtain rfl : i = k := by omega
      rw [List.getElem?_append_right (by omega), hl, Nat.sub_self]; rfl
theorem bitR_01 (g h : Nat) (s : ByteArray) (n i t : Nat) : bitR g h s n i t = 0 ∨ bitR g h s n i t = 1 := by
  unfold bitR; split <;> omega
theorem bit_val (b : Nat) (hb : b = 0 ∨ b = 1) : (UInt8.ofNat (48 + b)).toNat = 48 + b := by
  rcases hb with rfl | rfl <;> rfl
def readZ (g h : Nat) (s : ByteArray) (n : Nat) : List UInt8 := msgR g h s n (n - 3) ++ [48, 48, 48]
theorem readZ_at (g h : Nat) (s : ByteArray) {n i : Nat} (hi : i < n - 3) : ((readZ g h s n).getD i 48).toNat = 48 + bitR g h s n i (stR g h s n i) := by
  have hl := msgR_len g h s n (n - 3)
  unfold readZ
  rw [List.getD_eq_getElem?_getD, List.getElem?_append_left (by omega), ← List.getD_eq_getElem?_getD, msgR_at g h s n _ _ hi]
  exact bit_val _ (bitR_01 _ _ _ _ _ _)
theorem readZ_tail (g h : Nat) (s : ByteArray) {n i : Nat} (hi : n - 3 ≤ i) : ((readZ g h s n).getD i 48).toNat = 48 := by
  have hl := msgR_len g h s n (n - 3)
  unfold readZ
  rw [List.getD_eq_getElem?_getD, List.getElem?_append_right (by omega), hl]
  match i - (n - 3) with
  | 0 | 1 | 2 => rfl
  | t + 3 => rfl
theorem readZ_st (g h : Nat) (s : ByteArray) {n : Nat} : ∀ i, i ≤ n - 3 → winN (readZ g h s n) i % 8 = stR g h s n i
  | 0, _ => rfl
  | i + 1, hi => by
    have ih := readZ_st g h s (n := n) i (by omega)
    have hb := bitR_01 g h s n i (stR g h s n i)
    rw [winN, readZ_at g h s (by omega), stR]
    omega
theorem read_hit {g h : Nat} {s : ByteArray} {n : Nat} (h3 : 3 ≤ n) (hn : n ≤ 1000) : ∀ i, i ≤ n → VR g h s n i (winN (readZ g h s n) i % 8) + dW g h s (readZ g h s n) i = VR g h s n 0 0
  | 0, _ => by
    show VR g h s n 0 (0 % 8) + 0 = _
    rw [Int.add_zero]
  | i + 1, hi => by
    have ih := read_hit (g := g) (h := h) (s := s) h3 hn i (by omega)
    have e : dW g h s (readZ g h s n) (i + 1) = dW g h s (readZ g h s n) i + stepI g h s (2 * i) (winN (readZ g h s n) (i + 1)) := rfl
    by_cases hl : n ≤ i + 3
    · have hv : winN (readZ g h s n) (i + 1) = 2 * (winN (readZ g h s n) i % 8) := by rw [winN, readZ_tail g h s (by omega)]; omega
      rw [VR_last g h s hn (by omega) (by omega) hl] at ih
      rw [hv] at e ⊢
      omega
    · have hst := readZ_st g h s (n := n) i (by omega)
      have hb := readZ_at g h s (n := n) (i := i) (by omega)
      have hV := VR_free g h s (t := stR g h s n i) hn (show i < n by omega) (by rw [← hst]; omega) hl
      rw [hst] at ih
      by_cases hc : stepI g h s (2 * i) (2 * stR g h s n i) + (rowR g h s n (i + 1)).getD (2 * stR g h s n i % 8) 0 > (rowR g h s n i).getD (stR g h s n i) 0
      · have hbit : bitR g h s n i (stR g h s n i) = 1 := by unfold bitR; rw [if_pos hc]
        have hv : winN (readZ g h s n) (i + 1) = 2 * stR g h s n i + 1 := by rw [winN, hb, hbit, ← hst]; omega
        have hc' : stepI g h s (2 * i) (2 * stR g h s n i) + VR g h s n (i + 1) (2 * stR g h s n i % 8) > VR g h s n i (stR g h s n i) := hc
        rw [hv] at e ⊢
        omega
      · have hbit : bitR g h s n i (stR g h s n i) = 0 := by unfold bitR; rw [if_neg hc]
        have hv : winN (readZ g h s n) (i + 1) = 2 * stR g h s n i := by rw [winN, hb, hbit, ← hst]; omega
        have hc' : ¬ stepI g h s (2 * i) (2 * stR g h s n i) + VR g h s n (i + 1) (2 * stR g h s n i % 8) > VR g h s n i (stR g h s n i) := hc
        rw [hv] at e ⊢
        omega
theorem read_first {g h : Nat} {s : ByteArray} {n : Nat} (h3 : 3 ≤ n) (hn : n ≤ 1000) {z : List UInt8} (hz : bitsB z = true) (ht : ∀ j, n ≤ j + 3 → (z.getD j 48).toNat = 48) (hd : dW g h s z n = VR g h s n 0 0) {i : Nat} (hi : i < n - 3) (hs : ∀ j, j < i → (z.getD j 48).toNat = ((readZ g h s n).getD j 48).toNat) (h0 : (z.getD i 48).toNat = 48) : ((readZ g h s n).getD i 48).toNat = 48 := by
  have hw : ∀ j, j ≤ i → winN z j = winN (readZ g h s n) j ∧ dW g h s z j = dW g h s (readZ g h s n) j := by
    intro j
    induction j with
    | zero => intro _; exact ⟨rfl, rfl⟩
    | succ j ih =>
      intro hj
      obtain ⟨a, b⟩ := ih (by omega)
      have e : winN z (j + 1) = winN (readZ g h s n) (j + 1) := by rw [winN, winN, a, hs j (by omega)]
      exact ⟨e, by rw [dW, dW, b, e]⟩
  obtain ⟨hw1, hw2⟩ := hw i (Nat.le_refl _)
  have hhit := read_hit (g := g) (h := h) (s := s) h3 hn i (by omega)
  have hlow := read_low (g := g) (h := h) (s := s) hn hz ht (n - (i + 1)) (i + 1) (by omega)
  have hst := readZ_st g h s (n := n) i (by omega)
  have e : dW g h s z (i + 1) = dW g h s z i + stepI g h s (2 * i) (winN z (i + 1)) := rfl
  have hv : winN z (i + 1) = 2 * stR g h s n i := by rw [winN, h0, hw1, ← hst]; omega
  rw [hst] at hhit
  rw [hv] at e hlow
  rw [readZ_at g h s hi]
  have hc : ¬ stepI g h s (2 * i) (2 * stR g h s n i) + (rowR g h s n (i + 1)).getD (2 * stR g h s n i % 8) 0 > (rowR g h s n i).getD (stR g h s n i) 0 := by
    show ¬ stepI g h s (2 * i) (2 * stR g h s n i) + VR g h s n (i + 1) (2 * stR g h s n i % 8) > VR g h s n i (stR g h s n i)
    omega
  unfold bitR
  rw [if_neg hc]
theorem step_dist {g h : Nat} {s : ByteArray} {v i : Nat} (hi : i + 1 < s.size) : stepI g h s i v = (if chB g v = s.data.toList.getD i 0 then (0 : Int) else 1) + (if chB h v = s.data.toList.getD (i + 1) 0 then (0 : Int) else 1) := by
  have c1 := chB_nat g v
  have c2 := chB_nat h v
  unfold stepI differI neI
  rw [bt_nat s (q := i) (by omega), show (i : Int) + 1 = ((i + 1 : Nat) : Int) by omega, bt_nat s (q := i + 1) hi, ← c1, ← c2]
  have e : ∀ a b : UInt8, (if ((a.toNat : Int) = (b.toNat : Int)) then (0 : Int) else 1) = if b = a then 0 else 1 := by
    intro a b
    by_cases h : b = a
    · subst h; simp
    · rw [if_neg h, if_neg]
      intro h2
      exact h (UInt8.toNat_inj.1 (by omega))
  rw [e, e]
theorem dW_dist {g h : Nat} {s : ByteArray} {z : List UInt8} {n : Nat} (hs : s.size = 2 * n) : ∀ k, k ≤ n → distB (cardB g h z n) s.data.toList (2 * k) = dW g h s z k
  | 0, _ => rfl
  | k + 1, hk => by
    have ih := dW_dist (g := g) (h := h) (s := s) (z := z) hs k (by omega)
    have c1 := card_at (g := g) (h := h) (l := z) n k (by omega)
    rw [show 2 * (k + 1) = 2 * k + 1 + 1 by omega, distB, distB, ih, c1.1, c1.2, dW, step_dist (by omega)]
    omega
theorem dist_tri (p q r : List UInt8) : ∀ k, distB p r k ≤ distB p q k + distB q r k
  | 0 => by show (0 : Int) ≤ 0 + 0; decide
  | k + 1 => by
    have ih := dist_tri p q r k
    rw [distB, distB, distB]
    by_cases h1 : p.getD k 0 = q.getD k 0
    · rw [h1, if_pos rfl]; split <;> omega
    · rw [if_neg h1]
      split <;> split <;> omega
theorem dist_sym (p q : List UInt8) : ∀ k, distB p q k = distB q p k
  | 0 => rfl
  | k + 1 => by
    rw [distB, distB, dist_sym p q k]
    by_cases h1 : p.getD k 0 = q.getD k 0
    · rw [if_pos h1, if_pos h1.symm]
    · rw [if_neg h1, if_neg (fun h => h1 h.symm)]
end Go.Proofs.Ytcpojohpmcnnhaa.L

set_option linter.unusedVariables false
set_option linter.unusedSimpArgs false
namespace Go.Proofs.Ytcpojohpmcnnhaa.L
open Go.RowKit Go.Proofs.YtcpojohpmcnnhaaW.PrintWords Go.Proofs.YtcpojohpmcnnhaaW.PrintLast Go.Proofs.YtcpojohpmcnnhaaW.PrintMore
open Go.Proofs.Ytcpojohpmcnnhaa.PA Go.Proofs.Ytcpojohpmcnnhaa.A
def readM (c : ByteArray) (x y : Int) (n : Nat) : ByteArray := ⟨(msgR x.toNat y.toNat c n (n - 3)).toArray⟩
theorem read_ev {c : ByteArray} {x y : Int} {n : Nat} (hs : c.size = 2 * n) (h3 : 3 ≤ n) (hn : n ≤ 67) (hb : bitsS c = true) (hx : 1 ≤ x ∧ x ≤ 15) (hy : 1 ≤ y ∧ y ≤ 15) : Ev (fun k => code_Read.f k c x y) (readM c x y n, VR x.toNat y.toNat c n 0 0, 0) := by
  have tx : tapB x = true := by unfold tapB; simp; omega
  have ty : tapB y = true := by unfold tapB; simp; omega
  have hr : code_taps_read.f x y c = some (readM c x y n, VR x.toNat y.toNat c n 0 0) := by
    unfold code_taps_read.f
    rw [if_pos ⟨⟨by omega, by omega, by omega, by omega⟩, by omega, by omega, by omega⟩, show c.size / 2 = n by omega]
    rfl
  unfold code_Read.f
  simp only [if_pos (show (c.size : Int) % 2 = 0 by omega), within_all, Option.bind_some]
  rw [decide_eq_true (show (6 : Int) ≤ (c.size : Int) by omega), decide_eq_true (show (c.size : Int) ≤ 134 by omega)]
  simp only [Bool.and_self, if_true]
  refine Ev.bind (bits_ev c (by omega)) ?_
  rw [hb]
  simp only [if_true, areTaps_all, tx, ty, Bool.and_self, Option.bind_some, hr]
  exact Ev.now _
theorem readM_size (c : ByteArray) (x y : Int) (n : Nat) : (readM c x y n).size = n - 3 := by
  unfold readM
  rw [list_size, msgR_len]
theorem msgR_bits (g h : Nat) (s : ByteArray) (n : Nat) : ∀ k, bitsB (msgR g h s n k) = true
  | 0 => rfl
  | k + 1 => by
    have ih := msgR_bits g h s n k
    have h1 := bitR_01 g h s n k (stR g h s n k)
    have h2 := bit_val _ h1
    unfold bitsB at *
    rw [msgR, List.all_append, ih]
    rcases h1 with h1 | h1 <;> rw [h1] <;> rfl
theorem readM_bits (c : ByteArray) (x y : Int) (n : Nat) : bitsS (readM c x y n) = true := by
  unfold bitsS readM
  exact msgR_bits _ _ _ _ _
theorem less_false : ∀ (a b : List UInt8), a.length = b.length → bitsB a = true → bitsB b = true → (∀ i, i < a.length → (∀ j, j < i → a.getD j 48 = b.getD j 48) → a.getD i 48 = 48 → b.getD i 48 = 48) → Op.bytesLess a b = false
  | [], [], _, _, _, _ => rfl
  | [], _ :: _, h, _, _, _ => by simp at h
  | _ :: _, [], h, _, _, _ => by simp at h
  | a :: x, b :: y, h, ha, hb, hp => by
    have ha' : (a = 48 ∨ a = 49) ∧ bitsB x = true := by simpa [bitsB] using ha
    have hb' : (b = 48 ∨ b = 49) ∧ bitsB y = true := by simpa [bitsB] using hb
    have h0 := hp 0 (by simp) (fun j hj => by omega)
    simp only [List.getD_cons_zero] at h0
    have hlt : ¬ a < b := by
      rcases ha'.1 with rfl | rfl <;> rcases hb'.1 with rfl | rfl
      · decide
      · exact absurd (h0 rfl) (by decide)
      · decide
      · decide
    unfold Op.bytesLess
    rw [decide_eq_false hlt, Bool.false_or]
    by_cases hab : a = b
    · have ih := less_false x y (by simpa using h) ha'.2 hb'.2 (fun i hi hj h48 => by
        have := hp (i + 1) (by simp; omega) (fun j hjj => by
          cases j with
          | zero => simpa using hab
          | succ j => simpa using hj j (by omega)) (by simpa using h48)
        simpa using this)
      rw [ih, Bool.and_false]
    · rw [beq_eq_false_iff_ne.mpr hab, Bool.false_and]
theorem near_all {c m : ByteArray} {x y : Int} {n : Nat} (hs : c.size = 2 * n) (h3 : 3 ≤ n) (hn : n ≤ 67) (hm : m.size = n - 3) (hmb : bitsS m = true) :
    VR x.toNat y.toNat c n 0 0 ≤ distB (cardS m x y).data.toList c.data.toList (2 * n) ∧ (distB (cardS m x y).data.toList c.data.toList (2 * n) = VR x.toNat y.toNat c n 0 0 → Op.bytesLess m.toList (readM c x y n).toList = false) ∧ (m.toList = (readM c x y n).toList → distB (cardS m x y).data.toList c.data.toList (2 * n) = VR x.toNat y.toNat c n 0 0) := by
  have e1 : (cardS m x y).data.toList = cardB x.toNat y.toNat (msgL m) n := by
    unfold cardS
    rw [hm, show n - 3 + 3 = n by omega]
  have hz := msg_bits hmb
  have hzl := msg_len m
  have ht : ∀ j, n ≤ j + 3 → ((msgL m).getD j 48).toNat = 48 := by
    intro j hj
    unfold msgL
    rw [List.getD_eq_getElem?_getD, List.getElem?_append_right (by rw [data_len]; omega)]
    match j - m.data.toList.length with
    | 0 | 1 | 2 => rfl
    | t + 3 => rfl
  rw [e1, dW_dist hs n (Nat.le_refl _)]
  have hlow := read_low (g := x.toNat) (h := y.toNat) (s := c) (n := n) (by omega) hz ht n 0 (by omega)
  have hlow' : VR x.toNat y.toNat c n 0 0 ≤ dW x.toNat y.toNat c (msgL m) n := by
    have e : VR x.toNat y.toNat c n 0 (winN (msgL m) 0 % 8) + dW x.toNat y.toNat c (msgL m) 0 = VR x.toNat y.toNat c n 0 0 := by
      show VR x.toNat y.toNat c n 0 (0 % 8) + 0 = _
      rw [Int.add_zero]
    omega
  have hrz : msgL (readM c x y n) = readZ x.toNat y.toNat c n := rfl
  refine ⟨hlow', fun hd => ?_, fun he => ?_⟩
  · rw [toList_data, toList_data]
    have hml : m.data.toList.length = n - 3 := by rw [data_len]; exact hm
    have hrl : (readM c x y n).data.toList.length = n - 3 := by rw [data_len]; exact readM_size c x y n
    have at1 : ∀ i, i < n - 3 → (msgL m).getD i 48 = m.data.toList.getD i 48 := by
      intro i hi
      unfold msgL
      rw [List.getD_eq_getElem?_getD, List.getElem?_append_left (by omega), List.getD_eq_getElem?_getD]
    have at2 : ∀ i, i < n - 3 → (readZ x.toNat y.toNat c n).getD i 48 = (readM c x y n).data.toList.getD i 48 := by
      intro i hi
      rw [← hrz]
      unfold msgL
      rw [List.getD_eq_getElem?_getD, List.getElem?_append_left (by omega), List.getD_eq_getElem?_getD]
    refine less_false _ _ (by omega) hmb (readM_bits c x y n) (fun i hi hj h48 => ?_)
    have := read_first (g := x.toNat) (h := y.toNat) (s := c) (n := n) h3 (by omega) hz ht hd (i := i) (by omega) (fun j hji => by rw [at1 j (by omega), at2 j (by omega), hj j hji]) (by rw [at1 i (by omega), h48]; rfl)
    rw [at2 i (by omega)] at this
    exact UInt8.toNat_inj.1 (by rw [this]; rfl)
  · have := toList_inj he
    rw [this, hrz]
    have hhit := read_hit (g := x.toNat) (h := y.toNat) (s := c) (n := n) h3 (by omega) n (Nat.le_refl _)
    rw [VR_end] at hhit
    omega
end Go.Proofs.Ytcpojohpmcnnhaa.L

set_option linter.unusedVariables false
set_option linter.unusedSimpArgs false
namespace Go.Proofs.Ytcpojohpmcnnhaa.L
open Go.RowKit Go.Proofs.YtcpojohpmcnnhaaW.PrintWords Go.Proofs.YtcpojohpmcnnhaaW.PrintLast Go.Proofs.YtcpojohpmcnnhaaW.PrintMore
open Go.Proofs.Ytcpojohpmcnnhaa.PA Go.Proofs.Ytcpojohpmcnnhaa.A
def flipU (c : UInt8) : UInt8 := UInt8.ofNat (48 + (c.toNat + 1) % 2)
theorem flip_ne {c : UInt8} (h : c = 48 ∨ c = 49) : flipU c ≠ c ∧ (flipU c = 48 ∨ flipU c = 49) := by
  rcases h with rfl | rfl
  · exact ⟨by decide, .inr (by decide)⟩
  · exact ⟨by decide, .inl (by decide)⟩
structure MendT where
  b : List UInt8
  d : List Bool
  n : Nat
def mend1 (s : MendT) (k : Nat) : MendT := if s.d.getD k false = true then s else ⟨s.b.set k (flipU (s.b.getD k 0)), s.d.set k true, s.n + 1⟩
def mendL (c : List UInt8) (ks : Nat → Nat) : Nat → MendT
  | 0 => ⟨c, List.replicate 200 false, 0⟩
  | i + 1 => mend1 (mendL c ks i) (ks i)
structure MendOk (c : List UInt8) (s : MendT) : Prop where
  lb : s.b.length = c.length
  ld : s.d.length = 200
  bits : ∀ k, k < c.length → s.b.getD k 0 = 48 ∨ s.b.getD k 0 = 49
  same : ∀ k, k < c.length → s.d.getD k false = false → s.b.getD k 0 = c.getD k 0
  dist : distB c s.b c.length = (s.n : Int)
theorem getD_set {α : Type} (l : List α) (k j : Nat) (v d : α) : (l.set k v).getD j d = if j = k ∧ k < l.length then v else l.getD j d := by
  rw [List.getD_eq_getElem?_getD, List.getElem?_set]
  by_cases h : k = j
  · subst h
    rw [if_pos rfl]
    by_cases h2 : k < l.length
    · rw [if_pos h2, if_pos ⟨rfl, h2⟩]; rfl
    · rw [if_neg h2, if_neg (fun h => h2 h.2), List.getD_eq_getElem?_getD, List.getElem?_eq_none (by omega)]
  · rw [if_neg h, if_neg (fun h2 => h h2.1.symm), List.getD_eq_getElem?_getD]
theorem dist_set (c b : List UInt8) (k : Nat) (v : UInt8) (hk : k < b.length) (h0 : b.getD k 0 = c.getD k 0) (hv : v ≠ c.getD k 0) : ∀ m, distB c (b.set k v) m = distB c b m + if k < m then 1 else 0
  | 0 => by rw [if_neg (by omega)]; rfl
  | m + 1 => by
    have ih := dist_set c b k v hk h0 hv m
    rw [distB, distB, ih, getD_set]
    by_cases h : m = k
    · have e : (if m = k ∧ k < b.length then v else b.getD m 0) = v := if_pos ⟨h, hk⟩
      rw [e, h, h0, if_neg (Nat.lt_irrefl k), if_pos (Nat.lt_succ_self k), if_neg (fun h => hv h.symm), if_pos rfl]
    · have e : (if m = k ∧ k < b.length then v else b.getD m 0) = b.getD m 0 := if_neg (fun h2 => h h2.1)
      rw [e]
      by_cases h2 : k < m
      · rw [if_pos h2, if_pos (show k < m + 1 by omega)]; omega
      · rw [if_neg h2, if_neg (show ¬ k < m + 1 by omega)]; omega
theorem mend_step {c : List UInt8} {s : MendT} (h : MendOk c s) (hc : c.length ≤ 200) {k : Nat} (hk : k < c.length) : MendOk c (mend1 s k) := by
  have hlb := h.lb
  have hld := h.ld
  unfold mend1
  by_cases hd : s.d.getD k false = true
  · rw [if_pos hd]; exact h
  · rw [if_neg hd]
    have hd' : s.d.getD k false = false := by simpa using hd
    have hs := h.same k hk hd'
    have hb := h.bits k hk
    have hf := flip_ne hb
    refine ⟨by simp only [List.length_set]; exact hlb, by simp only [List.length_set]; exact hld, fun j hj => ?_, fun j hj hdj => ?_, ?_⟩
    · simp only
      rw [getD_set]
      split
      · exact hf.2
      · exact h.bits j hj
    · simp only at hdj ⊢
      rw [getD_set] at hdj ⊢
      by_cases e : j = k
      · subst e
        rw [if_pos ⟨rfl, by omega⟩] at hdj
        cases hdj
      · rw [if_neg (fun h2 => e h2.1)] at hdj ⊢
        exact h.same j hj hdj
    · simp only
      rw [dist_set c s.b k _ (by omega) hs (by rw [← hs]; exact hf.1), if_pos hk, h.dist]
      omega
theorem mend_ok {c : List UInt8} (hc : c.length ≤ 200) (hb : ∀ k, k < c.length → c.getD k 0 = 48 ∨ c.getD k 0 = 49) {ks : Nat → Nat} (hk : ∀ i, ks i < c.length) : ∀ i, MendOk c (mendL c ks i)
  | 0 => ⟨rfl, List.length_replicate, hb, fun _ _ _ => rfl, dist_self c _⟩
  | i + 1 => mend_step (mend_ok hc hb hk i) hc (hk i)
end Go.Proofs.Ytcpojohpmcnnhaa.L
