/- What the statements of this seat lean on: the functions that they reach, walked. -/
import Derived.RowKit
import Derived.Test.YtcpojohpmcnnhaaZq8
set_option linter.unusedSimpArgs false
set_option linter.unusedVariables false

namespace Go.Proofs.Ytcpojohpmcnnhaa.PA
open Go.RowKit Go.Proofs.YtcpojohpmcnnhaaW.PrintWords Go.Proofs.YtcpojohpmcnnhaaW.PrintLast Go.Proofs.YtcpojohpmcnnhaaW.PrintMore
attribute [local go_sem] max2_int min2_int max_two min_two max_three min_three max_four min_four
set_option linter.unusedVariables false
set_option linter.unusedSimpArgs false
def turndownlaw06_awake.j0 : Nat → Bool → Option (Bool)
 | 0, _ => none
 | k + 1, x80 => if x80 = true then (some false) else (some true)
def turndownlaw06_awake.f (k : Nat)  : Option (Bool) := (code_Best.f k (([1, 1, 2, 4] : List Int)) 32).bind fun bt155 => ((code_Code.f k (([2, 1, 2] : List Int))).bind fun bt163 => ((code_Card.f k (⟨#[49]⟩ : ByteArray) 7 5).bind fun bt167 => ((code_Read.f k (⟨#[49, 49, 49, 48, 49, 49, 48, 48]⟩ : ByteArray) 7 5).bind fun bt169 => ((code_Free.f 7 5).bind fun bt172 => (if bt155.2.2 = 0 then (if bt155.2.1 = 14 then (if bt163.2 = 0 then ((turndownlaw06_texts.f k bt163.1 (([(⟨#[49, 48]⟩ : ByteArray), (⟨#[48]⟩ : ByteArray), (⟨#[49, 49]⟩ : ByteArray)] : List ByteArray))).bind fun t177 => (if t177 = true then (if bt167.2 = 0 then (if bt167.1.toList = ([49, 49, 49, 48, 49, 49, 48, 48] : List UInt8) then (if bt169.2.2 = 0 then (if bt169.1.toList = ([49] : List UInt8) then (if bt169.2.1 = 0 then (if bt172.2 = 0 then (turndownlaw06_awake.j0 k (bt172.1 != 5)) else (turndownlaw06_awake.j0 k true)) else (turndownlaw06_awake.j0 k true)) else (turndownlaw06_awake.j0 k true)) else (turndownlaw06_awake.j0 k true)) else (turndownlaw06_awake.j0 k true)) else (turndownlaw06_awake.j0 k true)) else (turndownlaw06_awake.j0 k true))) else (turndownlaw06_awake.j0 k true)) else (turndownlaw06_awake.j0 k true)) else (turndownlaw06_awake.j0 k true))))))
theorem turndownlaw06_awake.mono_l : ∀ k, (∀ y0, LeO (turndownlaw06_awake.j0 k y0) (turndownlaw06_awake.j0 (k + 1) y0))
 | 0 => fun _ r h => by simp [turndownlaw06_awake.j0] at h
 | k + 1 => by
  have ih0 := turndownlaw06_awake.mono_l k
  ·
   intro y0
   unfold turndownlaw06_awake.j0
   repeat' first
   | (with_reducible exact ih0 _)
   | (with_reducible exact code_Best.mono _ _ _)
   | (with_reducible exact code_Card.mono _ _ _ _)
   | (with_reducible exact code_Code.mono _ _)
   | (with_reducible exact code_Read.mono _ _ _ _)
   | (with_reducible exact turndownlaw06_texts.mono _ _ _)
   | (with_reducible exact LeO.refl _)
   | (with_reducible exact LeO.none _)
   | (with_reducible refine LeO.ite ?_ ?_)
   | (with_reducible refine LeO.bind ?_ (fun _ => ?_))
   | exact ih0 _
   | exact code_Best.mono _ _ _
   | exact code_Card.mono _ _ _ _
   | exact code_Code.mono _ _
   | exact code_Read.mono _ _ _ _
   | exact turndownlaw06_texts.mono _ _ _
   | exact LeO.none _
   | refine LeO.ite ?_ ?_
   | refine LeO.bind ?_ (fun _ => ?_)
theorem turndownlaw06_awake.mono : ∀ k, LeO (turndownlaw06_awake.f k ) (turndownlaw06_awake.f (k + 1) ) := by
 intro  k
 have ih0 := turndownlaw06_awake.mono_l k
 unfold turndownlaw06_awake.f
 repeat' first
   | (with_reducible exact ih0 _)
   | (with_reducible exact code_Best.mono _ _ _)
   | (with_reducible exact code_Card.mono _ _ _ _)
   | (with_reducible exact code_Code.mono _ _)
   | (with_reducible exact code_Read.mono _ _ _ _)
   | (with_reducible exact turndownlaw06_texts.mono _ _ _)
   | (with_reducible exact LeO.refl _)
   | (with_reducible exact LeO.none _)
   | (with_reducible refine LeO.ite ?_ ?_)
   | (with_reducible refine LeO.bind ?_ (fun _ => ?_))
   | exact ih0 _
   | exact code_Best.mono _ _ _
   | exact code_Card.mono _ _ _ _
   | exact code_Code.mono _ _
   | exact code_Read.mono _ _ _ _
   | exact turndownlaw06_texts.mono _ _ _
   | exact LeO.none _
   | refine LeO.ite ?_ ?_
   | refine LeO.bind ?_ (fun _ => ?_)
set_option maxHeartbeats 8000000 in
set_option maxRecDepth 100000 in
theorem turndownlaw06_awake.calls (k : Nat)  (r : Bool) (w : World) (h : turndownlaw06_awake.f k  = some r) :
  Calls Try.prog 22 #[] w fun e w' => e = .returned (.bool r) ∧ Below w.heap.size w w' := by
 have HB := Aside0.mk (Below.refl w.heap.size w)
 have H : ((code_Best.f k (([1, 1, 2, 4] : List Int)) 32).bind fun bt155 => ((code_Code.f k (([2, 1, 2] : List Int))).bind fun bt163 => ((code_Card.f k (⟨#[49]⟩ : ByteArray) 7 5).bind fun bt167 => ((code_Read.f k (⟨#[49, 49, 49, 48, 49, 49, 48, 48]⟩ : ByteArray) 7 5).bind fun bt169 => ((code_Free.f 7 5).bind fun bt172 => (if bt155.2.2 = 0 then (if bt155.2.1 = 14 then (if bt163.2 = 0 then ((turndownlaw06_texts.f k bt163.1 (([(⟨#[49, 48]⟩ : ByteArray), (⟨#[48]⟩ : ByteArray), (⟨#[49, 49]⟩ : ByteArray)] : List ByteArray))).bind fun t177 => (if t177 = true then (if bt167.2 = 0 then (if bt167.1.toList = ([49, 49, 49, 48, 49, 49, 48, 48] : List UInt8) then (if bt169.2.2 = 0 then (if bt169.1.toList = ([49] : List UInt8) then (if bt169.2.1 = 0 then (if bt172.2 = 0 then (turndownlaw06_awake.j0 k (bt172.1 != 5)) else (turndownlaw06_awake.j0 k true)) else (turndownlaw06_awake.j0 k true)) else (turndownlaw06_awake.j0 k true)) else (turndownlaw06_awake.j0 k true)) else (turndownlaw06_awake.j0 k true)) else (turndownlaw06_awake.j0 k true)) else (turndownlaw06_awake.j0 k true))) else (turndownlaw06_awake.j0 k true)) else (turndownlaw06_awake.j0 k true)) else (turndownlaw06_awake.j0 k true))))))) = some r := h
 clear h
 obtain ⟨y152, hy152⟩ : ∃ y_ : List Int, y_ = (([1, 1, 2, 4] : List Int)) := ⟨_, rfl⟩
 replace H : ((code_Best.f k y152 32).bind fun bt155 => ((code_Code.f k (([2, 1, 2] : List Int))).bind fun bt163 => ((code_Card.f k (⟨#[49]⟩ : ByteArray) 7 5).bind fun bt167 => ((code_Read.f k (⟨#[49, 49, 49, 48, 49, 49, 48, 48]⟩ : ByteArray) 7 5).bind fun bt169 => ((code_Free.f 7 5).bind fun bt172 => (if bt155.2.2 = 0 then (if bt155.2.1 = 14 then (if bt163.2 = 0 then ((turndownlaw06_texts.f k bt163.1 (([(⟨#[49, 48]⟩ : ByteArray), (⟨#[48]⟩ : ByteArray), (⟨#[49, 49]⟩ : ByteArray)] : List ByteArray))).bind fun t177 => (if t177 = true then (if bt167.2 = 0 then (if bt167.1.toList = ([49, 49, 49, 48, 49, 49, 48, 48] : List UInt8) then (if bt169.2.2 = 0 then (if bt169.1.toList = ([49] : List UInt8) then (if bt169.2.1 = 0 then (if bt172.2 = 0 then (turndownlaw06_awake.j0 k (bt172.1 != 5)) else (turndownlaw06_awake.j0 k true)) else (turndownlaw06_awake.j0 k true)) else (turndownlaw06_awake.j0 k true)) else (turndownlaw06_awake.j0 k true)) else (turndownlaw06_awake.j0 k true)) else (turndownlaw06_awake.j0 k true)) else (turndownlaw06_awake.j0 k true))) else (turndownlaw06_awake.j0 k true)) else (turndownlaw06_awake.j0 k true)) else (turndownlaw06_awake.j0 k true))))))) = some r := by first | (rw [hy152]; with_reducible exact H) | (have H2_ := (Option.bind_some _ _).symm.trans H; rw [hy152]; with_reducible exact H2_) | (have H2_ := (Option.bind_some _ _).symm.trans H; with_reducible exact H2_) | with_reducible exact H | (rw [hy152]; exact H) | exact H
 have Ny152 := Aside0.mk hy152
 clear hy152
 replace H := Option.bind_eq_some_iff.mp H
 obtain ⟨⟨t155, t156, t157⟩, A10, H⟩ := H
 replace H : ((code_Code.f k (([2, 1, 2] : List Int))).bind fun bt163 => ((code_Card.f k (⟨#[49]⟩ : ByteArray) 7 5).bind fun bt167 => ((code_Read.f k (⟨#[49, 49, 49, 48, 49, 49, 48, 48]⟩ : ByteArray) 7 5).bind fun bt169 => ((code_Free.f 7 5).bind fun bt172 => (if t157 = 0 then (if t156 = 14 then (if bt163.2 = 0 then ((turndownlaw06_texts.f k bt163.1 (([(⟨#[49, 48]⟩ : ByteArray), (⟨#[48]⟩ : ByteArray), (⟨#[49, 49]⟩ : ByteArray)] : List ByteArray))).bind fun t177 => (if t177 = true then (if bt167.2 = 0 then (if bt167.1.toList = ([49, 49, 49, 48, 49, 49, 48, 48] : List UInt8) then (if bt169.2.2 = 0 then (if bt169.1.toList = ([49] : List UInt8) then (if bt169.2.1 = 0 then (if bt172.2 = 0 then (turndownlaw06_awake.j0 k (bt172.1 != 5)) else (turndownlaw06_awake.j0 k true)) else (turndownlaw06_awake.j0 k true)) else (turndownlaw06_awake.j0 k true)) else (turndownlaw06_awake.j0 k true)) else (turndownlaw06_awake.j0 k true)) else (turndownlaw06_awake.j0 k true)) else (turndownlaw06_awake.j0 k true))) else (turndownlaw06_awake.j0 k true)) else (turndownlaw06_awake.j0 k true)) else (turndownlaw06_awake.j0 k true)))))) = some r := H
 have A1 := Aside0.mk A10
 clear A10
 obtain ⟨y160, hy160⟩ : ∃ y_ : List Int, y_ = (([2, 1, 2] : List Int)) := ⟨_, rfl⟩
 replace H : ((code_Code.f k y160).bind fun bt163 => ((code_Card.f k (⟨#[49]⟩ : ByteArray) 7 5).bind fun bt167 => ((code_Read.f k (⟨#[49, 49, 49, 48, 49, 49, 48, 48]⟩ : ByteArray) 7 5).bind fun bt169 => ((code_Free.f 7 5).bind fun bt172 => (if t157 = 0 then (if t156 = 14 then (if bt163.2 = 0 then ((turndownlaw06_texts.f k bt163.1 (([(⟨#[49, 48]⟩ : ByteArray), (⟨#[48]⟩ : ByteArray), (⟨#[49, 49]⟩ : ByteArray)] : List ByteArray))).bind fun t177 => (if t177 = true then (if bt167.2 = 0 then (if bt167.1.toList = ([49, 49, 49, 48, 49, 49, 48, 48] : List UInt8) then (if bt169.2.2 = 0 then (if bt169.1.toList = ([49] : List UInt8) then (if bt169.2.1 = 0 then (if bt172.2 = 0 then (turndownlaw06_awake.j0 k (bt172.1 != 5)) else (turndownlaw06_awake.j0 k true)) else (turndownlaw06_awake.j0 k true)) else (turndownlaw06_awake.j0 k true)) else (turndownlaw06_awake.j0 k true)) else (turndownlaw06_awake.j0 k true)) else (turndownlaw06_awake.j0 k true)) else (turndownlaw06_awake.j0 k true))) else (turndownlaw06_awake.j0 k true)) else (turndownlaw06_awake.j0 k true)) else (turndownlaw06_awake.j0 k true)))))) = some r := by first | (rw [hy160]; with_reducible exact H) | (have H2_ := (Option.bind_some _ _).symm.trans H; rw [hy160]; with_reducible exact H2_) | (have H2_ := (Option.bind_some _ _).symm.trans H; with_reducible exact H2_) | with_reducible exact H | (rw [hy160]; exact H) | exact H
 have Ny160 := Aside0.mk hy160
 clear hy160
 replace H := Option.bind_eq_some_iff.mp H
 obtain ⟨⟨t163, t164⟩, A20, H⟩ := H
 replace H : ((code_Card.f k (⟨#[49]⟩ : ByteArray) 7 5).bind fun bt167 => ((code_Read.f k (⟨#[49, 49, 49, 48, 49, 49, 48, 48]⟩ : ByteArray) 7 5).bind fun bt169 => ((code_Free.f 7 5).bind fun bt172 => (if t157 = 0 then (if t156 = 14 then (if t164 = 0 then ((turndownlaw06_texts.f k t163 (([(⟨#[49, 48]⟩ : ByteArray), (⟨#[48]⟩ : ByteArray), (⟨#[49, 49]⟩ : ByteArray)] : List ByteArray))).bind fun t177 => (if t177 = true then (if bt167.2 = 0 then (if bt167.1.toList = ([49, 49, 49, 48, 49, 49, 48, 48] : List UInt8) then (if bt169.2.2 = 0 then (if bt169.1.toList = ([49] : List UInt8) then (if bt169.2.1 = 0 then (if bt172.2 = 0 then (turndownlaw06_awake.j0 k (bt172.1 != 5)) else (turndownlaw06_awake.j0 k true)) else (turndownlaw06_awake.j0 k true)) else (turndownlaw06_awake.j0 k true)) else (turndownlaw06_awake.j0 k true)) else (turndownlaw06_awake.j0 k true)) else (turndownlaw06_awake.j0 k true)) else (turndownlaw06_awake.j0 k true))) else (turndownlaw06_awake.j0 k true)) else (turndownlaw06_awake.j0 k true)) else (turndownlaw06_awake.j0 k true))))) = some r := H
 have A2 := Aside0.mk A20
 clear A20
 replace H := Option.bind_eq_some_iff.mp H
 obtain ⟨⟨t167, t168⟩, A30, H⟩ := H
 replace H : ((code_Read.f k (⟨#[49, 49, 49, 48, 49, 49, 48, 48]⟩ : ByteArray) 7 5).bind fun bt169 => ((code_Free.f 7 5).bind fun bt172 => (if t157 = 0 then (if t156 = 14 then (if t164 = 0 then ((turndownlaw06_texts.f k t163 (([(⟨#[49, 48]⟩ : ByteArray), (⟨#[48]⟩ : ByteArray), (⟨#[49, 49]⟩ : ByteArray)] : List ByteArray))).bind fun t177 => (if t177 = true then (if t168 = 0 then (if t167.toList = ([49, 49, 49, 48, 49, 49, 48, 48] : List UInt8) then (if bt169.2.2 = 0 then (if bt169.1.toList = ([49] : List UInt8) then (if bt169.2.1 = 0 then (if bt172.2 = 0 then (turndownlaw06_awake.j0 k (bt172.1 != 5)) else (turndownlaw06_awake.j0 k true)) else (turndownlaw06_awake.j0 k true)) else (turndownlaw06_awake.j0 k true)) else (turndownlaw06_awake.j0 k true)) else (turndownlaw06_awake.j0 k true)) else (turndownlaw06_awake.j0 k true)) else (turndownlaw06_awake.j0 k true))) else (turndownlaw06_awake.j0 k true)) else (turndownlaw06_awake.j0 k true)) else (turndownlaw06_awake.j0 k true)))) = some r := H
 have A3 := Aside0.mk A30
 clear A30
 replace H := Option.bind_eq_some_iff.mp H
 obtain ⟨⟨t169, t170, t171⟩, A40, H⟩ := H
 replace H : ((code_Free.f 7 5).bind fun bt172 => (if t157 = 0 then (if t156 = 14 then (if t164 = 0 then ((turndownlaw06_texts.f k t163 (([(⟨#[49, 48]⟩ : ByteArray), (⟨#[48]⟩ : ByteArray), (⟨#[49, 49]⟩ : ByteArray)] : List ByteArray))).bind fun t177 => (if t177 = true then (if t168 = 0 then (if t167.toList = ([49, 49, 49, 48, 49, 49, 48, 48] : List UInt8) then (if t171 = 0 then (if t169.toList = ([49] : List UInt8) then (if t170 = 0 then (if bt172.2 = 0 then (turndownlaw06_awake.j0 k (bt172.1 != 5)) else (turndownlaw06_awake.j0 k true)) else (turndownlaw06_awake.j0 k true)) else (turndownlaw06_awake.j0 k true)) else (turndownlaw06_awake.j0 k true)) else (turndownlaw06_awake.j0 k true)) else (turndownlaw06_awake.j0 k true)) else (turndownlaw06_awake.j0 k true))) else (turndownlaw06_awake.j0 k true)) else (turndownlaw06_awake.j0 k true)) else (turndownlaw06_awake.j0 k true))) = some r := H
 have A4 := Aside0.mk A40
 clear A40
 replace H := Option.bind_eq_some_iff.mp H
 obtain ⟨⟨t172, t173⟩, A50, H⟩ := H
 replace H : (if t157 = 0 then (if t156 = 14 then (if t164 = 0 then ((turndownlaw06_texts.f k t163 (([(⟨#[49, 48]⟩ : ByteArray), (⟨#[48]⟩ : ByteArray), (⟨#[49, 49]⟩ : ByteArray)] : List ByteArray))).bind fun t177 => (if t177 = true then (if t168 = 0 then (if t167.toList = ([49, 49, 49, 48, 49, 49, 48, 48] : List UInt8) then (if t171 = 0 then (if t169.toList = ([49] : List UInt8) then (if t170 = 0 then (if t173 = 0 then (turndownlaw06_awake.j0 k (t172 != 5)) else (turndownlaw06_awake.j0 k true)) else (turndownlaw06_awake.j0 k true)) else (turndownlaw06_awake.j0 k true)) else (turndownlaw06_awake.j0 k true)) else (turndownlaw06_awake.j0 k true)) else (turndownlaw06_awake.j0 k true)) else (turndownlaw06_awake.j0 k true))) else (turndownlaw06_awake.j0 k true)) else (turndownlaw06_awake.j0 k true)) else (turndownlaw06_awake.j0 k true)) = some r := H
 have A5 := Aside0.mk A50
 clear A50
 have HC6 := Aside0.mk H
 clear H
 go_enter Try.func22, Try.ntmps22
 go_upto_region 6 with (first | ((with_reducible refine gate_dst (N := 14) rfl ?_); (try (refine gate_guard (by rfl) ?_; dsimp only)); refine Kd.R_lit (Kd.int .i64) _ 3 ?hg (N := 14) ?hd (xs := ([1, 1, 2, 4] : List Int)) (inner := [.int .i64 1, .int .i64 1, .int .i64 2, .int .i64 4]) (ok := fun _ => True) (okp := fun _ => True) ?hr ?hp (fun _ hk => hk) trivial (Below.refl _ _) (Nat.le_refl _) (by simp) ?_; (case hd => rfl); (case hg => rfl); (case hr => first | (go_simp; done) | (go_simp; rfl)); (case hp => exact (Reps.one (show Kd.M (Kd.int .i64) _ _ _ 1 [.int .i64 1] from rfl) (Reps.one (show Kd.M (Kd.int .i64) _ _ _ 1 [.int .i64 1] from rfl) (Reps.one (show Kd.M (Kd.int .i64) _ _ _ 2 [.int .i64 2] from rfl) (Reps.one (show Kd.M (Kd.int .i64) _ _ _ 4 [.int .i64 4] from rfl) (Reps.none _ _)))))); intro v153 w7 ho8 hb hg_ hnew_; clear hg_ hnew_; (first | rw [← Ny152.out] at ho8 | (simp only [Int.reduceToNat] at ho8; rw [← Ny152.out] at ho8)); have n0_ := Aside0.mk (Kd.R_lower ho8 (below_size (by repeat (first | (with_reducible first | exact HB.out | apply below_alloc | apply pw_below_drewN | apply below_drew1) | exact HB.out)))); have n1_ := Aside0.mk (below_step (by repeat (first | (with_reducible first | exact HB.out | apply below_alloc | apply pw_below_drewN | apply below_drew1) | exact HB.out)) hb); clear HB; have HO154 := n0_; have HB := n1_; clear n0_ n1_; clear hb ho8; obtain ⟨Ao9, co9, eo9⟩ := Kd.R_slice HO154.out; subst eo9) | ((with_reducible refine gate_callee (f := 20) rfl ?_); refine goesL_ (some 15) rfl rfl Try.func20 (by kernel_rfl) rfl #[.slice Ao9 y152.length co9, .int .i64 32] rfl (by (try simp only [List.map_toArray, List.map_cons, List.map_nil]); first | done | rfl | (simp only [List.length_drop, List.length_take]; rfl)) ?_; (with_reducible refine (code_Best.calls k _ _ y152 32 t155 t156 t157 _ ?side1 ?side2 A1.out).mono ?_); (case side1 => repeat (first | exact (Kd.R_reads' HO154.out).2.2 | (with_reducible refine Kd.C_alloc ?_ _) | (with_reducible refine Kd.C_drewN ?_ _) | (with_reducible refine Kd.C_drew ?_))); (case side2 => exact (Kd.R_reads' HO154.out).2.1); rintro e w10 ⟨v158, rfl, ho0, hb⟩; refine ⟨_, rfl, ?_⟩; have n0_ := Aside0.mk (Kd.R_elder' (by (with_reducible repeat (first | apply Kd.R_alloc | apply Kd.R_drewN | apply Kd.R_drew)); exact HO154.out) (Kd.R_base ho0) hb); have n1_ := Aside0.mk (Kd.R_lower (Kd.R_new' ho0 (Kd.R_lt (by (with_reducible repeat (first | apply Kd.R_alloc | apply Kd.R_drewN | apply Kd.R_drew)); exact HO154.out))) (below_size (by repeat (first | (with_reducible first | exact HB.out | apply below_alloc | apply pw_below_drewN | apply below_drew1) | exact HB.out)))); have n2_ := Aside0.mk (below_step (by repeat (first | (with_reducible first | exact HB.out | apply below_alloc | apply pw_below_drewN | apply below_drew1) | exact HB.out)) hb); clear HO154; clear HB; have HO154 := n0_; have HO159 := n1_; have HB := n2_; clear n0_ n1_ n2_; (try clear hb); (try clear hb2); (try clear hk); (try clear hi); (try clear ho0)) | ((with_reducible refine gate_dst (N := 20) rfl ?_); (try (refine gate_guard (by rfl) ?_; dsimp only)); refine Kd.R_lit (Kd.int .i64) _ 3 ?hg (N := 20) ?hd (xs := ([2, 1, 2] : List Int)) (inner := [.int .i64 2, .int .i64 1, .int .i64 2]) (ok := fun _ => True) (okp := fun _ => True) ?hr ?hp (fun _ hk => hk) trivial (Below.refl _ _) (Nat.le_refl _) (by simp) ?_; (case hd => rfl); (case hg => rfl); (case hr => first | (go_simp; done) | (go_simp; rfl)); (case hp => exact (Reps.one (show Kd.M (Kd.int .i64) _ _ _ 2 [.int .i64 2] from rfl) (Reps.one (show Kd.M (Kd.int .i64) _ _ _ 1 [.int .i64 1] from rfl) (Reps.one (show Kd.M (Kd.int .i64) _ _ _ 2 [.int .i64 2] from rfl) (Reps.none _ _))))); intro v161 w11 ho12 hb hg_ hnew_; clear hg_ hnew_; (first | rw [← Ny160.out] at ho12 | (simp only [Int.reduceToNat] at ho12; rw [← Ny160.out] at ho12)); have n0_ := Aside0.mk (Kd.R_elder' (by (with_reducible repeat (first | apply Kd.R_alloc | apply Kd.R_drewN | apply Kd.R_drew)); exact HO154.out) (Kd.R_base ho12) hb); have n1_ := Aside0.mk (Kd.R_elder' (by (with_reducible repeat (first | apply Kd.R_alloc | apply Kd.R_drewN | apply Kd.R_drew)); exact HO159.out) (Kd.R_base ho12) hb); have n2_ := Aside0.mk (Kd.R_lower (Kd.R_new' (Kd.R_new' ho12 (Kd.R_lt (by (with_reducible repeat (first | apply Kd.R_alloc | apply Kd.R_drewN | apply Kd.R_drew)); exact HO154.out))) (Kd.R_lt (by (with_reducible repeat (first | apply Kd.R_alloc | apply Kd.R_drewN | apply Kd.R_drew)); exact HO159.out))) (below_size (by repeat (first | (with_reducible first | exact HB.out | apply below_alloc | apply pw_below_drewN | apply below_drew1) | exact HB.out)))); have n3_ := Aside0.mk (below_step (by repeat (first | (with_reducible first | exact HB.out | apply below_alloc | apply pw_below_drewN | apply below_drew1) | exact HB.out)) hb); clear HO154; clear HO159; clear HB; have HO154 := n0_; have HO159 := n1_; have HO162 := n2_; have HB := n3_; clear n0_ n1_ n2_ n3_; clear hb ho12; obtain ⟨Ao13, co13, eo13⟩ := Kd.R_slice HO162.out; subst eo13) | ((with_reducible refine gate_callee (f := 27) rfl ?_); refine goesL_ (some 21) rfl rfl Try.func27 (by kernel_rfl) rfl #[.slice Ao13 y160.length co13] rfl (by (try simp only [List.map_toArray, List.map_cons, List.map_nil]); first | done | rfl | (simp only [List.length_drop, List.length_take]; rfl)) ?_; (with_reducible refine (code_Code.calls k _ _ y160 t163 t164 _ ?side1 ?side2 A2.out).mono ?_); (case side1 => repeat (first | exact (Kd.R_reads' HO162.out).2.2 | (with_reducible refine Kd.C_alloc ?_ _) | (with_reducible refine Kd.C_drewN ?_ _) | (with_reducible refine Kd.C_drew ?_))); (case side2 => exact (Kd.R_reads' HO162.out).2.1); rintro e w14 ⟨v165, rfl, ho0, hb⟩; refine ⟨_, rfl, ?_⟩; have n0_ := Aside0.mk (Kd.R_below (by (with_reducible repeat (first | apply Kd.R_alloc | apply Kd.R_drewN | apply Kd.R_drew)); exact HO154.out) hb); have n1_ := Aside0.mk (Kd.R_below (by (with_reducible repeat (first | apply Kd.R_alloc | apply Kd.R_drewN | apply Kd.R_drew)); exact HO159.out) hb); have n2_ := Aside0.mk (Kd.R_below (by (with_reducible repeat (first | apply Kd.R_alloc | apply Kd.R_drewN | apply Kd.R_drew)); exact HO162.out) hb); have n3_ := Aside0.mk (Kd.R_lower ho0 (below_size (by repeat (first | (with_reducible first | exact HB.out | apply below_alloc | apply pw_below_drewN | apply below_drew1) | exact HB.out)))); have n4_ := Aside0.mk (below_step (by repeat (first | (with_reducible first | exact HB.out | apply below_alloc | apply pw_below_drewN | apply below_drew1) | exact HB.out)) hb); clear HO154; clear HO159; clear HO162; clear HB; have HO154 := n0_; have HO159 := n1_; have HO162 := n2_; have HO166 := n3_; have HB := n4_; clear n0_ n1_ n2_ n3_ n4_; (try clear hb); (try clear hb2); (try clear hk); (try clear hi); (try clear ho0)) | ((with_reducible refine gate_callee (f := 30) rfl ?_); refine goesL_ (some 25) rfl rfl Try.func30 (by kernel_rfl) rfl #[.string (⟨#[49]⟩ : ByteArray), .int .i64 7, .int .i64 5] rfl (by (try simp only [List.map_toArray, List.map_cons, List.map_nil]); first | done | rfl | (simp only [List.length_drop, List.length_take]; rfl)) ?_; (with_reducible refine (code_Card.calls k (⟨#[49]⟩ : ByteArray) 7 5 t167 t168 _ A3.out).mono ?_); rintro e w15 ⟨rfl, hb⟩; refine ⟨_, rfl, ?_⟩; have n0_ := Aside0.mk (Kd.R_below (by (with_reducible repeat (first | apply Kd.R_alloc | apply Kd.R_drewN | apply Kd.R_drew)); exact HO154.out) hb); have n1_ := Aside0.mk (Kd.R_below (by (with_reducible repeat (first | apply Kd.R_alloc | apply Kd.R_drewN | apply Kd.R_drew)); exact HO159.out) hb); have n2_ := Aside0.mk (Kd.R_below (by (with_reducible repeat (first | apply Kd.R_alloc | apply Kd.R_drewN | apply Kd.R_drew)); exact HO162.out) hb); have n3_ := Aside0.mk (Kd.R_below (by (with_reducible repeat (first | apply Kd.R_alloc | apply Kd.R_drewN | apply Kd.R_drew)); exact HO166.out) hb); have n4_ := Aside0.mk (below_step (by repeat (first | (with_reducible first | exact HB.out | apply below_alloc | apply pw_below_drewN | apply below_drew1) | exact HB.out)) hb); clear HO154; clear HO159; clear HO162; clear HO166; clear HB; have HO154 := n0_; have HO159 := n1_; have HO162 := n2_; have HO166 := n3_; have HB := n4_; clear n0_ n1_ n2_ n3_ n4_; (try clear hb); (try clear hb2); (try clear hk); (try clear hi)) | ((with_reducible refine gate_callee (f := 34) rfl ?_); refine goesL_ (some 29) rfl rfl Try.func34 (by kernel_rfl) rfl #[.string (⟨#[49, 49, 49, 48, 49, 49, 48, 48]⟩ : ByteArray), .int .i64 7, .int .i64 5] rfl (by (try simp only [List.map_toArray, List.map_cons, List.map_nil]); first | done | rfl | (simp only [List.length_drop, List.length_take]; rfl)) ?_; (with_reducible refine (code_Read.calls k (⟨#[49, 49, 49, 48, 49, 49, 48, 48]⟩ : ByteArray) 7 5 t169 t170 t171 _ A4.out).mono ?_); rintro e w16 ⟨rfl, hb⟩; refine ⟨_, rfl, ?_⟩; have n0_ := Aside0.mk (Kd.R_below (by (with_reducible repeat (first | apply Kd.R_alloc | apply Kd.R_drewN | apply Kd.R_drew)); exact HO154.out) hb); have n1_ := Aside0.mk (Kd.R_below (by (with_reducible repeat (first | apply Kd.R_alloc | apply Kd.R_drewN | apply Kd.R_drew)); exact HO159.out) hb); have n2_ := Aside0.mk (Kd.R_below (by (with_reducible repeat (first | apply Kd.R_alloc | apply Kd.R_drewN | apply Kd.R_drew)); exact HO162.out) hb); have n3_ := Aside0.mk (Kd.R_below (by (with_reducible repeat (first | apply Kd.R_alloc | apply Kd.R_drewN | apply Kd.R_drew)); exact HO166.out) hb); have n4_ := Aside0.mk (below_step (by repeat (first | (with_reducible first | exact HB.out | apply below_alloc | apply pw_below_drewN | apply below_drew1) | exact HB.out)) hb); clear HO154; clear HO159; clear HO162; clear HO166; clear HB; have HO154 := n0_; have HO159 := n1_; have HO162 := n2_; have HO166 := n3_; have HB := n4_; clear n0_ n1_ n2_ n3_ n4_; (try clear hb); (try clear hb2); (try clear hk); (try clear hi)) | ((with_reducible refine gate_callee (f := 36) rfl ?_); refine goesL_ (some 34) rfl rfl Try.func36 (by kernel_rfl) rfl #[.int .i64 7, .int .i64 5] rfl (by (try simp only [List.map_toArray, List.map_cons, List.map_nil]); first | done | rfl | (simp only [List.length_drop, List.length_take]; rfl)) ?_; (with_reducible refine (code_Free.calls 7 5 t172 t173 _ A5.out).mono ?_); rintro e w17 ⟨rfl, hb⟩; refine ⟨_, rfl, ?_⟩; have n0_ := Aside0.mk (Kd.R_below (by (with_reducible repeat (first | apply Kd.R_alloc | apply Kd.R_drewN | apply Kd.R_drew)); exact HO154.out) hb); have n1_ := Aside0.mk (Kd.R_below (by (with_reducible repeat (first | apply Kd.R_alloc | apply Kd.R_drewN | apply Kd.R_drew)); exact HO159.out) hb); have n2_ := Aside0.mk (Kd.R_below (by (with_reducible repeat (first | apply Kd.R_alloc | apply Kd.R_drewN | apply Kd.R_drew)); exact HO162.out) hb); have n3_ := Aside0.mk (Kd.R_below (by (with_reducible repeat (first | apply Kd.R_alloc | apply Kd.R_drewN | apply Kd.R_drew)); exact HO166.out) hb); have n4_ := Aside0.mk (below_step (by repeat (first | (with_reducible first | exact HB.out | apply below_alloc | apply pw_below_drewN | apply below_drew1) | exact HB.out)) hb); clear HO154; clear HO159; clear HO162; clear HO166; clear HB; have HO154 := n0_; have HO159 := n1_; have HO162 := n2_; have HO166 := n3_; have HB := n4_; clear n0_ n1_ n2_ n3_ n4_; (try clear hb); (try clear hb2); (try clear hk); (try clear hi)))
 (try simp only [Act.put, List.setIfInBounds_toArray, List.set_cons_zero, List.set_cons_succ])
 go_cut [80] (fun v80 wc => ∃ (kq : Nat) (x80_5 : Bool), v80 = .bool x80_5 ∧ Aside0 (turndownlaw06_awake.j0 kq x80_5 = some r) ∧ Aside0 (kq ≤ k) ∧ Aside0 (Below w.heap.size w wc))
 case first =>
  have H := HC6.out
  clear HC6
  by_cases c18 : t157 = 0
  ·
   rw [if_pos c18] at H
   have c18b0 : (t157 == 0) = true := beq_iff_eq.mpr c18
   have c18b1 : (t157 != 0) = false := bne_eq_false_iff_eq.mpr c18
   clear c18
   (first | rw [c18b0] | (simp only [i64_w, i32_w]; rw [c18b0]) | skip)
   by_cases c19 : t156 = 14
   ·
    rw [if_pos c19] at H
    have c19b0 : (t156 == 14) = true := beq_iff_eq.mpr c19
    have c19b1 : (t156 != 14) = false := bne_eq_false_iff_eq.mpr c19
    clear c19
    by_cases c20 : t164 = 0
    ·
     rw [if_pos c20] at H
     have c20b0 : (t164 == 0) = true := beq_iff_eq.mpr c20
     have c20b1 : (t164 != 0) = false := bne_eq_false_iff_eq.mpr c20
     clear c20
     obtain ⟨y174, hy174⟩ : ∃ y_ : List ByteArray, y_ = (([(⟨#[49, 48]⟩ : ByteArray), (⟨#[48]⟩ : ByteArray), (⟨#[49, 49]⟩ : ByteArray)] : List ByteArray)) := ⟨_, rfl⟩
     replace H : ((turndownlaw06_texts.f k t163 y174).bind fun t177 => (if t177 = true then (if t168 = 0 then (if t167.toList = ([49, 49, 49, 48, 49, 49, 48, 48] : List UInt8) then (if t171 = 0 then (if t169.toList = ([49] : List UInt8) then (if t170 = 0 then (if t173 = 0 then (turndownlaw06_awake.j0 k (t172 != 5)) else (turndownlaw06_awake.j0 k true)) else (turndownlaw06_awake.j0 k true)) else (turndownlaw06_awake.j0 k true)) else (turndownlaw06_awake.j0 k true)) else (turndownlaw06_awake.j0 k true)) else (turndownlaw06_awake.j0 k true)) else (turndownlaw06_awake.j0 k true))) = some r := by first | (rw [hy174]; with_reducible exact H) | (have H2_ := (Option.bind_some _ _).symm.trans H; rw [hy174]; with_reducible exact H2_) | (have H2_ := (Option.bind_some _ _).symm.trans H; with_reducible exact H2_) | with_reducible exact H | (rw [hy174]; exact H) | exact H
     have Ny174 := Aside0.mk hy174
     clear hy174
     replace H := Option.bind_eq_some_iff.mp H
     obtain ⟨t177, A210, H⟩ := H
     replace H : (if t177 = true then (if t168 = 0 then (if t167.toList = ([49, 49, 49, 48, 49, 49, 48, 48] : List UInt8) then (if t171 = 0 then (if t169.toList = ([49] : List UInt8) then (if t170 = 0 then (if t173 = 0 then (turndownlaw06_awake.j0 k (t172 != 5)) else (turndownlaw06_awake.j0 k true)) else (turndownlaw06_awake.j0 k true)) else (turndownlaw06_awake.j0 k true)) else (turndownlaw06_awake.j0 k true)) else (turndownlaw06_awake.j0 k true)) else (turndownlaw06_awake.j0 k true)) else (turndownlaw06_awake.j0 k true)) = some r := H
     have A21 := Aside0.mk A210
     clear A210
     by_cases c22 : t177 = true
     ·
      subst c22
      have H1 : (if t168 = 0 then (if t167.toList = ([49, 49, 49, 48, 49, 49, 48, 48] : List UInt8) then (if t171 = 0 then (if t169.toList = ([49] : List UInt8) then (if t170 = 0 then (if t173 = 0 then (turndownlaw06_awake.j0 k (t172 != 5)) else (turndownlaw06_awake.j0 k true)) else (turndownlaw06_awake.j0 k true)) else (turndownlaw06_awake.j0 k true)) else (turndownlaw06_awake.j0 k true)) else (turndownlaw06_awake.j0 k true)) else (turndownlaw06_awake.j0 k true)) = some r := by rw [if_pos rfl] at H; exact H
      clear H
      have H := H1
      clear H1
      by_cases c23 : t168 = 0
      ·
       rw [if_pos c23] at H
       have c23b0 : (t168 == 0) = true := beq_iff_eq.mpr c23
       have c23b1 : (t168 != 0) = false := bne_eq_false_iff_eq.mpr c23
       clear c23
       by_cases c24 : t167.toList = ([49, 49, 49, 48, 49, 49, 48, 48] : List UInt8)
       ·
        rw [if_pos c24] at H
        have c24b0 : (t167.toList == ([49, 49, 49, 48, 49, 49, 48, 48] : List UInt8)) = true := beq_iff_eq.mpr c24
        have c24b1 : (t167.toList != ([49, 49, 49, 48, 49, 49, 48, 48] : List UInt8)) = false := bne_eq_false_iff_eq.mpr c24
        clear c24
        by_cases c25 : t171 = 0
        ·
         rw [if_pos c25] at H
         have c25b0 : (t171 == 0) = true := beq_iff_eq.mpr c25
         have c25b1 : (t171 != 0) = false := bne_eq_false_iff_eq.mpr c25
         clear c25
         by_cases c26 : t169.toList = ([49] : List UInt8)
         ·
          rw [if_pos c26] at H
          have c26b0 : (t169.toList == ([49] : List UInt8)) = true := beq_iff_eq.mpr c26
          have c26b1 : (t169.toList != ([49] : List UInt8)) = false := bne_eq_false_iff_eq.mpr c26
          clear c26
          by_cases c27 : t170 = 0
          ·
           rw [if_pos c27] at H
           have c27b0 : (t170 == 0) = true := beq_iff_eq.mpr c27
           have c27b1 : (t170 != 0) = false := bne_eq_false_iff_eq.mpr c27
           clear c27
           by_cases c28 : t173 = 0
           ·
            rw [if_pos c28] at H
            have c28b0 : (t173 == 0) = true := beq_iff_eq.mpr c28
            have c28b1 : (t173 != 0) = false := bne_eq_false_iff_eq.mpr c28
            clear c28
            have H' := Aside0.mk H
            clear H
            go_wp2_with (first | ((with_reducible refine gate_dst (N := 49) rfl ?_); (try (refine gate_guard (by rfl) ?_; dsimp only)); refine Kd.R_lit Kd.string _ 9 ?hg (N := 49) ?hd (xs := ([(⟨#[49, 48]⟩ : ByteArray), (⟨#[48]⟩ : ByteArray), (⟨#[49, 49]⟩ : ByteArray)] : List ByteArray)) (inner := [.string (⟨#[49, 48]⟩ : ByteArray), .string (⟨#[48]⟩ : ByteArray), .string (⟨#[49, 49]⟩ : ByteArray)]) (ok := fun _ => True) (okp := fun _ => True) ?hr ?hp (fun _ hk => hk) trivial (Below.refl _ _) (Nat.le_refl _) (by simp) ?_; (case hd => rfl); (case hg => rfl); (case hr => first | (go_simp; done) | (go_simp; rfl)); (case hp => exact (Reps.one (show Kd.M Kd.string _ _ _ (⟨#[49, 48]⟩ : ByteArray) [.string (⟨#[49, 48]⟩ : ByteArray)] from rfl) (Reps.one (show Kd.M Kd.string _ _ _ (⟨#[48]⟩ : ByteArray) [.string (⟨#[48]⟩ : ByteArray)] from rfl) (Reps.one (show Kd.M Kd.string _ _ _ (⟨#[49, 49]⟩ : ByteArray) [.string (⟨#[49, 49]⟩ : ByteArray)] from rfl) (Reps.none _ _))))); intro v175 w29 ho30 hb hg_ hnew_; clear hg_ hnew_; (first | rw [← Ny174.out] at ho30 | (simp only [Int.reduceToNat] at ho30; rw [← Ny174.out] at ho30)); have n0_ := Aside0.mk (Kd.R_below (by (with_reducible repeat (first | apply Kd.R_alloc | apply Kd.R_drewN | apply Kd.R_drew)); exact HO154.out) hb); have n1_ := Aside0.mk (Kd.R_below (by (with_reducible repeat (first | apply Kd.R_alloc | apply Kd.R_drewN | apply Kd.R_drew)); exact HO159.out) hb); have n2_ := Aside0.mk (Kd.R_below (by (with_reducible repeat (first | apply Kd.R_alloc | apply Kd.R_drewN | apply Kd.R_drew)); exact HO162.out) hb); have n3_ := Aside0.mk (Kd.R_elder' (by (with_reducible repeat (first | apply Kd.R_alloc | apply Kd.R_drewN | apply Kd.R_drew)); exact HO166.out) (Kd.R_base ho30) hb); have n4_ := Aside0.mk (Kd.R_lower (Kd.R_new' ho30 (Kd.R_lt (by (with_reducible repeat (first | apply Kd.R_alloc | apply Kd.R_drewN | apply Kd.R_drew)); exact HO166.out))) (below_size (by repeat (first | (with_reducible first | exact HB.out | apply below_alloc | apply pw_below_drewN | apply below_drew1) | exact HB.out)))); have n5_ := Aside0.mk (below_step (by repeat (first | (with_reducible first | exact HB.out | apply below_alloc | apply pw_below_drewN | apply below_drew1) | exact HB.out)) hb); clear HO154; clear HO159; clear HO162; clear HO166; clear HB; have HO154 := n0_; have HO159 := n1_; have HO162 := n2_; have HO166 := n3_; have HO176 := n4_; have HB := n5_; clear n0_ n1_ n2_ n3_ n4_ n5_; clear hb ho30; obtain ⟨Ao31, co31, eo31⟩ := Kd.R_slice HO166.out; subst eo31; obtain ⟨Ao32, co32, eo32⟩ := Kd.R_slice HO176.out; subst eo32) | (go_at_call 28; (with_reducible refine (turndownlaw06_texts.calls k _ _ t163 _ _ y174 true _ ?side1 ?side2 ?side3 ?side4 A21.out).mono ?_); (case side1 => repeat (first | exact (Kd.R_reads' HO166.out).2.2 | (with_reducible refine Kd.C_alloc ?_ _) | (with_reducible refine Kd.C_drewN ?_ _) | (with_reducible refine Kd.C_drew ?_))); (case side2 => exact (Kd.R_reads' HO166.out).2.1); (case side3 => repeat (first | exact (Kd.R_reads' HO176.out).2.2 | (with_reducible refine Kd.C_alloc ?_ _) | (with_reducible refine Kd.C_drewN ?_ _) | (with_reducible refine Kd.C_drew ?_))); (case side4 => exact (Kd.R_reads' HO176.out).2.1); rintro e w' ⟨rfl, ⟨nd, rfl⟩⟩))
            go_meet
            case rel => exact ⟨_, ((t172 != 5)), (by first | rfl | (simp; done) | (simp [*]; done)), H', ⟨by first | omega | exact Nat.le_refl _⟩, ⟨by repeat (first | (with_reducible first | exact HB.out | apply below_alloc | apply pw_below_drewN | apply below_drew1) | exact HB.out)⟩⟩
           ·
            rw [if_neg c28] at H
            have c28b0 : (t173 == 0) = false := beq_eq_false_iff_ne.mpr c28
            have c28b1 : (t173 != 0) = true := bne_iff_ne.mpr c28
            have H' := Aside0.mk H
            clear H
            go_wp2_with (first | ((with_reducible refine gate_dst (N := 49) rfl ?_); (try (refine gate_guard (by rfl) ?_; dsimp only)); refine Kd.R_lit Kd.string _ 9 ?hg (N := 49) ?hd (xs := ([(⟨#[49, 48]⟩ : ByteArray), (⟨#[48]⟩ : ByteArray), (⟨#[49, 49]⟩ : ByteArray)] : List ByteArray)) (inner := [.string (⟨#[49, 48]⟩ : ByteArray), .string (⟨#[48]⟩ : ByteArray), .string (⟨#[49, 49]⟩ : ByteArray)]) (ok := fun _ => True) (okp := fun _ => True) ?hr ?hp (fun _ hk => hk) trivial (Below.refl _ _) (Nat.le_refl _) (by simp) ?_; (case hd => rfl); (case hg => rfl); (case hr => first | (go_simp; done) | (go_simp; rfl)); (case hp => exact (Reps.one (show Kd.M Kd.string _ _ _ (⟨#[49, 48]⟩ : ByteArray) [.string (⟨#[49, 48]⟩ : ByteArray)] from rfl) (Reps.one (show Kd.M Kd.string _ _ _ (⟨#[48]⟩ : ByteArray) [.string (⟨#[48]⟩ : ByteArray)] from rfl) (Reps.one (show Kd.M Kd.string _ _ _ (⟨#[49, 49]⟩ : ByteArray) [.string (⟨#[49, 49]⟩ : ByteArray)] from rfl) (Reps.none _ _))))); intro v175 w33 ho34 hb hg_ hnew_; clear hg_ hnew_; (first | rw [← Ny174.out] at ho34 | (simp only [Int.reduceToNat] at ho34; rw [← Ny174.out] at ho34)); have n0_ := Aside0.mk (Kd.R_below (by (with_reducible repeat (first | apply Kd.R_alloc | apply Kd.R_drewN | apply Kd.R_drew)); exact HO154.out) hb); have n1_ := Aside0.mk (Kd.R_below (by (with_reducible repeat (first | apply Kd.R_alloc | apply Kd.R_drewN | apply Kd.R_drew)); exact HO159.out) hb); have n2_ := Aside0.mk (Kd.R_below (by (with_reducible repeat (first | apply Kd.R_alloc | apply Kd.R_drewN | apply Kd.R_drew)); exact HO162.out) hb); have n3_ := Aside0.mk (Kd.R_elder' (by (with_reducible repeat (first | apply Kd.R_alloc | apply Kd.R_drewN | apply Kd.R_drew)); exact HO166.out) (Kd.R_base ho34) hb); have n4_ := Aside0.mk (Kd.R_lower (Kd.R_new' ho34 (Kd.R_lt (by (with_reducible repeat (first | apply Kd.R_alloc | apply Kd.R_drewN | apply Kd.R_drew)); exact HO166.out))) (below_size (by repeat (first | (with_reducible first | exact HB.out | apply below_alloc | apply pw_below_drewN | apply below_drew1) | exact HB.out)))); have n5_ := Aside0.mk (below_step (by repeat (first | (with_reducible first | exact HB.out | apply below_alloc | apply pw_below_drewN | apply below_drew1) | exact HB.out)) hb); clear HO154; clear HO159; clear HO162; clear HO166; clear HB; have HO154 := n0_; have HO159 := n1_; have HO162 := n2_; have HO166 := n3_; have HO176 := n4_; have HB := n5_; clear n0_ n1_ n2_ n3_ n4_ n5_; clear hb ho34; obtain ⟨Ao35, co35, eo35⟩ := Kd.R_slice HO166.out; subst eo35; obtain ⟨Ao36, co36, eo36⟩ := Kd.R_slice HO176.out; subst eo36) | (go_at_call 28; (with_reducible refine (turndownlaw06_texts.calls k _ _ t163 _ _ y174 true _ ?side1 ?side2 ?side3 ?side4 A21.out).mono ?_); (case side1 => repeat (first | exact (Kd.R_reads' HO166.out).2.2 | (with_reducible refine Kd.C_alloc ?_ _) | (with_reducible refine Kd.C_drewN ?_ _) | (with_reducible refine Kd.C_drew ?_))); (case side2 => exact (Kd.R_reads' HO166.out).2.1); (case side3 => repeat (first | exact (Kd.R_reads' HO176.out).2.2 | (with_reducible refine Kd.C_alloc ?_ _) | (with_reducible refine Kd.C_drewN ?_ _) | (with_reducible refine Kd.C_drew ?_))); (case side4 => exact (Kd.R_reads' HO176.out).2.1); rintro e w' ⟨rfl, ⟨nd, rfl⟩⟩))
            go_meet
            case rel => exact ⟨_, (true), (by first | rfl | (simp; done) | (simp [*]; done)), H', ⟨by first | omega | exact Nat.le_refl _⟩, ⟨by repeat (first | (with_reducible first | exact HB.out | apply below_alloc | apply pw_below_drewN | apply below_drew1) | exact HB.out)⟩⟩
          ·
           rw [if_neg c27] at H
           have c27b0 : (t170 == 0) = false := beq_eq_false_iff_ne.mpr c27
           have c27b1 : (t170 != 0) = true := bne_iff_ne.mpr c27
           have H' := Aside0.mk H
           clear H
           go_wp2_with (first | ((with_reducible refine gate_dst (N := 49) rfl ?_); (try (refine gate_guard (by rfl) ?_; dsimp only)); refine Kd.R_lit Kd.string _ 9 ?hg (N := 49) ?hd (xs := ([(⟨#[49, 48]⟩ : ByteArray), (⟨#[48]⟩ : ByteArray), (⟨#[49, 49]⟩ : ByteArray)] : List ByteArray)) (inner := [.string (⟨#[49, 48]⟩ : ByteArray), .string (⟨#[48]⟩ : ByteArray), .string (⟨#[49, 49]⟩ : ByteArray)]) (ok := fun _ => True) (okp := fun _ => True) ?hr ?hp (fun _ hk => hk) trivial (Below.refl _ _) (Nat.le_refl _) (by simp) ?_; (case hd => rfl); (case hg => rfl); (case hr => first | (go_simp; done) | (go_simp; rfl)); (case hp => exact (Reps.one (show Kd.M Kd.string _ _ _ (⟨#[49, 48]⟩ : ByteArray) [.string (⟨#[49, 48]⟩ : ByteArray)] from rfl) (Reps.one (show Kd.M Kd.string _ _ _ (⟨#[48]⟩ : ByteArray) [.string (⟨#[48]⟩ : ByteArray)] from rfl) (Reps.one (show Kd.M Kd.string _ _ _ (⟨#[49, 49]⟩ : ByteArray) [.string (⟨#[49, 49]⟩ : ByteArray)] from rfl) (Reps.none _ _))))); intro v175 w37 ho38 hb hg_ hnew_; clear hg_ hnew_; (first | rw [← Ny174.out] at ho38 | (simp only [Int.reduceToNat] at ho38; rw [← Ny174.out] at ho38)); have n0_ := Aside0.mk (Kd.R_below (by (with_reducible repeat (first | apply Kd.R_alloc | apply Kd.R_drewN | apply Kd.R_drew)); exact HO154.out) hb); have n1_ := Aside0.mk (Kd.R_below (by (with_reducible repeat (first | apply Kd.R_alloc | apply Kd.R_drewN | apply Kd.R_drew)); exact HO159.out) hb); have n2_ := Aside0.mk (Kd.R_below (by (with_reducible repeat (first | apply Kd.R_alloc | apply Kd.R_drewN | apply Kd.R_drew)); exact HO162.out) hb); have n3_ := Aside0.mk (Kd.R_elder' (by (with_reducible repeat (first | apply Kd.R_alloc | apply Kd.R_drewN | apply Kd.R_drew)); exact HO166.out) (Kd.R_base ho38) hb); have n4_ := Aside0.mk (Kd.R_lower (Kd.R_new' ho38 (Kd.R_lt (by (with_reducible repeat (first | apply Kd.R_alloc | apply Kd.R_drewN | apply Kd.R_drew)); exact HO166.out))) (below_size (by repeat (first | (with_reducible first | exact HB.out | apply below_alloc | apply pw_below_drewN | apply below_drew1) | exact HB.out)))); have n5_ := Aside0.mk (below_step (by repeat (first | (with_reducible first | exact HB.out | apply below_alloc | apply pw_below_drewN | apply below_drew1) | exact HB.out)) hb); clear HO154; clear HO159; clear HO162; clear HO166; clear HB; have HO154 := n0_; have HO159 := n1_; have HO162 := n2_; have HO166 := n3_; have HO176 := n4_; have HB := n5_; clear n0_ n1_ n2_ n3_ n4_ n5_; clear hb ho38; obtain ⟨Ao39, co39, eo39⟩ := Kd.R_slice HO166.out; subst eo39; obtain ⟨Ao40, co40, eo40⟩ := Kd.R_slice HO176.out; subst eo40) | (go_at_call 28; (with_reducible refine (turndownlaw06_texts.calls k _ _ t163 _ _ y174 true _ ?side1 ?side2 ?side3 ?side4 A21.out).mono ?_); (case side1 => repeat (first | exact (Kd.R_reads' HO166.out).2.2 | (with_reducible refine Kd.C_alloc ?_ _) | (with_reducible refine Kd.C_drewN ?_ _) | (with_reducible refine Kd.C_drew ?_))); (case side2 => exact (Kd.R_reads' HO166.out).2.1); (case side3 => repeat (first | exact (Kd.R_reads' HO176.out).2.2 | (with_reducible refine Kd.C_alloc ?_ _) | (with_reducible refine Kd.C_drewN ?_ _) | (with_reducible refine Kd.C_drew ?_))); (case side4 => exact (Kd.R_reads' HO176.out).2.1); rintro e w' ⟨rfl, ⟨nd, rfl⟩⟩))
           go_meet
           case rel => exact ⟨_, (true), (by first | rfl | (simp; done) | (simp [*]; done)), H', ⟨by first | omega | exact Nat.le_refl _⟩, ⟨by repeat (first | (with_reducible first | exact HB.out | apply below_alloc | apply pw_below_drewN | apply below_drew1) | exact HB.out)⟩⟩
         ·
          rw [if_neg c26] at H
          have c26b0 : (t169.toList == ([49] : List UInt8)) = false := beq_eq_false_iff_ne.mpr c26
          have c26b1 : (t169.toList != ([49] : List UInt8)) = true := bne_iff_ne.mpr c26
          have H' := Aside0.mk H
          clear H
          go_wp2_with (first | ((with_reducible refine gate_dst (N := 49) rfl ?_); (try (refine gate_guard (by rfl) ?_; dsimp only)); refine Kd.R_lit Kd.string _ 9 ?hg (N := 49) ?hd (xs := ([(⟨#[49, 48]⟩ : ByteArray), (⟨#[48]⟩ : ByteArray), (⟨#[49, 49]⟩ : ByteArray)] : List ByteArray)) (inner := [.string (⟨#[49, 48]⟩ : ByteArray), .string (⟨#[48]⟩ : ByteArray), .string (⟨#[49, 49]⟩ : ByteArray)]) (ok := fun _ => True) (okp := fun _ => True) ?hr ?hp (fun _ hk => hk) trivial (Below.refl _ _) (Nat.le_refl _) (by simp) ?_; (case hd => rfl); (case hg => rfl); (case hr => first | (go_simp; done) | (go_simp; rfl)); (case hp => exact (Reps.one (show Kd.M Kd.string _ _ _ (⟨#[49, 48]⟩ : ByteArray) [.string (⟨#[49, 48]⟩ : ByteArray)] from rfl) (Reps.one (show Kd.M Kd.string _ _ _ (⟨#[48]⟩ : ByteArray) [.string (⟨#[48]⟩ : ByteArray)] from rfl) (Reps.one (show Kd.M Kd.string _ _ _ (⟨#[49, 49]⟩ : ByteArray) [.string (⟨#[49, 49]⟩ : ByteArray)] from rfl) (Reps.none _ _))))); intro v175 w41 ho42 hb hg_ hnew_; clear hg_ hnew_; (first | rw [← Ny174.out] at ho42 | (simp only [Int.reduceToNat] at ho42; rw [← Ny174.out] at ho42)); have n0_ := Aside0.mk (Kd.R_below (by (with_reducible repeat (first | apply Kd.R_alloc | apply Kd.R_drewN | apply Kd.R_drew)); exact HO154.out) hb); have n1_ := Aside0.mk (Kd.R_below (by (with_reducible repeat (first | apply Kd.R_alloc | apply Kd.R_drewN | apply Kd.R_drew)); exact HO159.out) hb); have n2_ := Aside0.mk (Kd.R_below (by (with_reducible repeat (first | apply Kd.R_alloc | apply Kd.R_drewN | apply Kd.R_drew)); exact HO162.out) hb); have n3_ := Aside0.mk (Kd.R_elder' (by (with_reducible repeat (first | apply Kd.R_alloc | apply Kd.R_drewN | apply Kd.R_drew)); exact HO166.out) (Kd.R_base ho42) hb); have n4_ := Aside0.mk (Kd.R_lower (Kd.R_new' ho42 (Kd.R_lt (by (with_reducible repeat (first | apply Kd.R_alloc | apply Kd.R_drewN | apply Kd.R_drew)); exact HO166.out))) (below_size (by repeat (first | (with_reducible first | exact HB.out | apply below_alloc | apply pw_below_drewN | apply below_drew1) | exact HB.out)))); have n5_ := Aside0.mk (below_step (by repeat (first | (with_reducible first | exact HB.out | apply below_alloc | apply pw_below_drewN | apply below_drew1) | exact HB.out)) hb); clear HO154; clear HO159; clear HO162; clear HO166; clear HB; have HO154 := n0_; have HO159 := n1_; have HO162 := n2_; have HO166 := n3_; have HO176 := n4_; have HB := n5_; clear n0_ n1_ n2_ n3_ n4_ n5_; clear hb ho42; obtain ⟨Ao43, co43, eo43⟩ := Kd.R_slice HO166.out; subst eo43; obtain ⟨Ao44, co44, eo44⟩ := Kd.R_slice HO176.out; subst eo44) | (go_at_call 28; (with_reducible refine (turndownlaw06_texts.calls k _ _ t163 _ _ y174 true _ ?side1 ?side2 ?side3 ?side4 A21.out).mono ?_); (case side1 => repeat (first | exact (Kd.R_reads' HO166.out).2.2 | (with_reducible refine Kd.C_alloc ?_ _) | (with_reducible refine Kd.C_drewN ?_ _) | (with_reducible refine Kd.C_drew ?_))); (case side2 => exact (Kd.R_reads' HO166.out).2.1); (case side3 => repeat (first | exact (Kd.R_reads' HO176.out).2.2 | (with_reducible refine Kd.C_alloc ?_ _) | (with_reducible refine Kd.C_drewN ?_ _) | (with_reducible refine Kd.C_drew ?_))); (case side4 => exact (Kd.R_reads' HO176.out).2.1); rintro e w' ⟨rfl, ⟨nd, rfl⟩⟩))
          go_meet
          case rel => exact ⟨_, (true), (by first | rfl | (simp; done) | (simp [*]; done)), H', ⟨by first | omega | exact Nat.le_refl _⟩, ⟨by repeat (first | (with_reducible first | exact HB.out | apply below_alloc | apply pw_below_drewN | apply below_drew1) | exact HB.out)⟩⟩
        ·
         rw [if_neg c25] at H
         have c25b0 : (t171 == 0) = false := beq_eq_false_iff_ne.mpr c25
         have c25b1 : (t171 != 0) = true := bne_iff_ne.mpr c25
         have H' := Aside0.mk H
         clear H
         go_wp2_with (first | ((with_reducible refine gate_dst (N := 49) rfl ?_); (try (refine gate_guard (by rfl) ?_; dsimp only)); refine Kd.R_lit Kd.string _ 9 ?hg (N := 49) ?hd (xs := ([(⟨#[49, 48]⟩ : ByteArray), (⟨#[48]⟩ : ByteArray), (⟨#[49, 49]⟩ : ByteArray)] : List ByteArray)) (inner := [.string (⟨#[49, 48]⟩ : ByteArray), .string (⟨#[48]⟩ : ByteArray), .string (⟨#[49, 49]⟩ : ByteArray)]) (ok := fun _ => True) (okp := fun _ => True) ?hr ?hp (fun _ hk => hk) trivial (Below.refl _ _) (Nat.le_refl _) (by simp) ?_; (case hd => rfl); (case hg => rfl); (case hr => first | (go_simp; done) | (go_simp; rfl)); (case hp => exact (Reps.one (show Kd.M Kd.string _ _ _ (⟨#[49, 48]⟩ : ByteArray) [.string (⟨#[49, 48]⟩ : ByteArray)] from rfl) (Reps.one (show Kd.M Kd.string _ _ _ (⟨#[48]⟩ : ByteArray) [.string (⟨#[48]⟩ : ByteArray)] from rfl) (Reps.one (show Kd.M Kd.string _ _ _ (⟨#[49, 49]⟩ : ByteArray) [.string (⟨#[49, 49]⟩ : ByteArray)] from rfl) (Reps.none _ _))))); intro v175 w45 ho46 hb hg_ hnew_; clear hg_ hnew_; (first | rw [← Ny174.out] at ho46 | (simp only [Int.reduceToNat] at ho46; rw [← Ny174.out] at ho46)); have n0_ := Aside0.mk (Kd.R_below (by (with_reducible repeat (first | apply Kd.R_alloc | apply Kd.R_drewN | apply Kd.R_drew)); exact HO154.out) hb); have n1_ := Aside0.mk (Kd.R_below (by (with_reducible repeat (first | apply Kd.R_alloc | apply Kd.R_drewN | apply Kd.R_drew)); exact HO159.out) hb); have n2_ := Aside0.mk (Kd.R_below (by (with_reducible repeat (first | apply Kd.R_alloc | apply Kd.R_drewN | apply Kd.R_drew)); exact HO162.out) hb); have n3_ := Aside0.mk (Kd.R_elder' (by (with_reducible repeat (first | apply Kd.R_alloc | apply Kd.R_drewN | apply Kd.R_drew)); exact HO166.out) (Kd.R_base ho46) hb); have n4_ := Aside0.mk (Kd.R_lower (Kd.R_new' ho46 (Kd.R_lt (by (with_reducible repeat (first | apply Kd.R_alloc | apply Kd.R_drewN | apply Kd.R_drew)); exact HO166.out))) (below_size (by repeat (first | (with_reducible first | exact HB.out | apply below_alloc | apply pw_below_drewN | apply below_drew1) | exact HB.out)))); have n5_ := Aside0.mk (below_step (by repeat (first | (with_reducible first | exact HB.out | apply below_alloc | apply pw_below_drewN | apply below_drew1) | exact HB.out)) hb); clear HO154; clear HO159; clear HO162; clear HO166; clear HB; have HO154 := n0_; have HO159 := n1_; have HO162 := n2_; have HO166 := n3_; have HO176 := n4_; have HB := n5_; clear n0_ n1_ n2_ n3_ n4_ n5_; clear hb ho46; obtain ⟨Ao47, co47, eo47⟩ := Kd.R_slice HO166.out; subst eo47; obtain ⟨Ao48, co48, eo48⟩ := Kd.R_slice HO176.out; subst eo48) | (go_at_call 28; (with_reducible refine (turndownlaw06_texts.calls k _ _ t163 _ _ y174 true _ ?side1 ?side2 ?side3 ?side4 A21.out).mono ?_); (case side1 => repeat (first | exact (Kd.R_reads' HO166.out).2.2 | (with_reducible refine Kd.C_alloc ?_ _) | (with_reducible refine Kd.C_drewN ?_ _) | (with_reducible refine Kd.C_drew ?_))); (case side2 => exact (Kd.R_reads' HO166.out).2.1); (case side3 => repeat (first | exact (Kd.R_reads' HO176.out).2.2 | (with_reducible refine Kd.C_alloc ?_ _) | (with_reducible refine Kd.C_drewN ?_ _) | (with_reducible refine Kd.C_drew ?_))); (case side4 => exact (Kd.R_reads' HO176.out).2.1); rintro e w' ⟨rfl, ⟨nd, rfl⟩⟩))
         go_meet
         case rel => exact ⟨_, (true), (by first | rfl | (simp; done) | (simp [*]; done)), H', ⟨by first | omega | exact Nat.le_refl _⟩, ⟨by repeat (first | (with_reducible first | exact HB.out | apply below_alloc | apply pw_below_drewN | apply below_drew1) | exact HB.out)⟩⟩
       ·
        rw [if_neg c24] at H
        have c24b0 : (t167.toList == ([49, 49, 49, 48, 49, 49, 48, 48] : List UInt8)) = false := beq_eq_false_iff_ne.mpr c24
        have c24b1 : (t167.toList != ([49, 49, 49, 48, 49, 49, 48, 48] : List UInt8)) = true := bne_iff_ne.mpr c24
        have H' := Aside0.mk H
        clear H
        go_wp2_with (first | ((with_reducible refine gate_dst (N := 49) rfl ?_); (try (refine gate_guard (by rfl) ?_; dsimp only)); refine Kd.R_lit Kd.string _ 9 ?hg (N := 49) ?hd (xs := ([(⟨#[49, 48]⟩ : ByteArray), (⟨#[48]⟩ : ByteArray), (⟨#[49, 49]⟩ : ByteArray)] : List ByteArray)) (inner := [.string (⟨#[49, 48]⟩ : ByteArray), .string (⟨#[48]⟩ : ByteArray), .string (⟨#[49, 49]⟩ : ByteArray)]) (ok := fun _ => True) (okp := fun _ => True) ?hr ?hp (fun _ hk => hk) trivial (Below.refl _ _) (Nat.le_refl _) (by simp) ?_; (case hd => rfl); (case hg => rfl); (case hr => first | (go_simp; done) | (go_simp; rfl)); (case hp => exact (Reps.one (show Kd.M Kd.string _ _ _ (⟨#[49, 48]⟩ : ByteArray) [.string (⟨#[49, 48]⟩ : ByteArray)] from rfl) (Reps.one (show Kd.M Kd.string _ _ _ (⟨#[48]⟩ : ByteArray) [.string (⟨#[48]⟩ : ByteArray)] from rfl) (Reps.one (show Kd.M Kd.string _ _ _ (⟨#[49, 49]⟩ : ByteArray) [.string (⟨#[49, 49]⟩ : ByteArray)] from rfl) (Reps.none _ _))))); intro v175 w49 ho50 hb hg_ hnew_; clear hg_ hnew_; (first | rw [← Ny174.out] at ho50 | (simp only [Int.reduceToNat] at ho50; rw [← Ny174.out] at ho50)); have n0_ := Aside0.mk (Kd.R_below (by (with_reducible repeat (first | apply Kd.R_alloc | apply Kd.R_drewN | apply Kd.R_drew)); exact HO154.out) hb); have n1_ := Aside0.mk (Kd.R_below (by (with_reducible repeat (first | apply Kd.R_alloc | apply Kd.R_drewN | apply Kd.R_drew)); exact HO159.out) hb); have n2_ := Aside0.mk (Kd.R_below (by (with_reducible repeat (first | apply Kd.R_alloc | apply Kd.R_drewN | apply Kd.R_drew)); exact HO162.out) hb); have n3_ := Aside0.mk (Kd.R_elder' (by (with_reducible repeat (first | apply Kd.R_alloc | apply Kd.R_drewN | apply Kd.R_drew)); exact HO166.out) (Kd.R_base ho50) hb); have n4_ := Aside0.mk (Kd.R_lower (Kd.R_new' ho50 (Kd.R_lt (by (with_reducible repeat (first | apply Kd.R_alloc | apply Kd.R_drewN | apply Kd.R_drew)); exact HO166.out))) (below_size (by repeat (first | (with_reducible first | exact HB.out | apply below_alloc | apply pw_below_drewN | apply below_drew1) | exact HB.out)))); have n5_ := Aside0.mk (below_step (by repeat (first | (with_reducible first | exact HB.out | apply below_alloc | apply pw_below_drewN | apply below_drew1) | exact HB.out)) hb); clear HO154; clear HO159; clear HO162; clear HO166; clear HB; have HO154 := n0_; have HO159 := n1_; have HO162 := n2_; have HO166 := n3_; have HO176 := n4_; have HB := n5_; clear n0_ n1_ n2_ n3_ n4_ n5_; clear hb ho50; obtain ⟨Ao51, co51, eo51⟩ := Kd.R_slice HO166.out; subst eo51; obtain ⟨Ao52, co52, eo52⟩ := Kd.R_slice HO176.out; subst eo52) | (go_at_call 28; (with_reducible refine (turndownlaw06_texts.calls k _ _ t163 _ _ y174 true _ ?side1 ?side2 ?side3 ?side4 A21.out).mono ?_); (case side1 => repeat (first | exact (Kd.R_reads' HO166.out).2.2 | (with_reducible refine Kd.C_alloc ?_ _) | (with_reducible refine Kd.C_drewN ?_ _) | (with_reducible refine Kd.C_drew ?_))); (case side2 => exact (Kd.R_reads' HO166.out).2.1); (case side3 => repeat (first | exact (Kd.R_reads' HO176.out).2.2 | (with_reducible refine Kd.C_alloc ?_ _) | (with_reducible refine Kd.C_drewN ?_ _) | (with_reducible refine Kd.C_drew ?_))); (case side4 => exact (Kd.R_reads' HO176.out).2.1); rintro e w' ⟨rfl, ⟨nd, rfl⟩⟩))
        go_meet
        case rel => exact ⟨_, (true), (by first | rfl | (simp; done) | (simp [*]; done)), H', ⟨by first | omega | exact Nat.le_refl _⟩, ⟨by repeat (first | (with_reducible first | exact HB.out | apply below_alloc | apply pw_below_drewN | apply below_drew1) | exact HB.out)⟩⟩
      ·
       rw [if_neg c23] at H
       have c23b0 : (t168 == 0) = false := beq_eq_false_iff_ne.mpr c23
       have c23b1 : (t168 != 0) = true := bne_iff_ne.mpr c23
       have H' := Aside0.mk H
       clear H
       go_wp2_with (first | ((with_reducible refine gate_dst (N := 49) rfl ?_); (try (refine gate_guard (by rfl) ?_; dsimp only)); refine Kd.R_lit Kd.string _ 9 ?hg (N := 49) ?hd (xs := ([(⟨#[49, 48]⟩ : ByteArray), (⟨#[48]⟩ : ByteArray), (⟨#[49, 49]⟩ : ByteArray)] : List ByteArray)) (inner := [.string (⟨#[49, 48]⟩ : ByteArray), .string (⟨#[48]⟩ : ByteArray), .string (⟨#[49, 49]⟩ : ByteArray)]) (ok := fun _ => True) (okp := fun _ => True) ?hr ?hp (fun _ hk => hk) trivial (Below.refl _ _) (Nat.le_refl _) (by simp) ?_; (case hd => rfl); (case hg => rfl); (case hr => first | (go_simp; done) | (go_simp; rfl)); (case hp => exact (Reps.one (show Kd.M Kd.string _ _ _ (⟨#[49, 48]⟩ : ByteArray) [.string (⟨#[49, 48]⟩ : ByteArray)] from rfl) (Reps.one (show Kd.M Kd.string _ _ _ (⟨#[48]⟩ : ByteArray) [.string (⟨#[48]⟩ : ByteArray)] from rfl) (Reps.one (show Kd.M Kd.string _ _ _ (⟨#[49, 49]⟩ : ByteArray) [.string (⟨#[49, 49]⟩ : ByteArray)] from rfl) (Reps.none _ _))))); intro v175 w53 ho54 hb hg_ hnew_; clear hg_ hnew_; (first | rw [← Ny174.out] at ho54 | (simp only [Int.reduceToNat] at ho54; rw [← Ny174.out] at ho54)); have n0_ := Aside0.mk (Kd.R_below (by (with_reducible repeat (first | apply Kd.R_alloc | apply Kd.R_drewN | apply Kd.R_drew)); exact HO154.out) hb); have n1_ := Aside0.mk (Kd.R_below (by (with_reducible repeat (first | apply Kd.R_alloc | apply Kd.R_drewN | apply Kd.R_drew)); exact HO159.out) hb); have n2_ := Aside0.mk (Kd.R_below (by (with_reducible repeat (first | apply Kd.R_alloc | apply Kd.R_drewN | apply Kd.R_drew)); exact HO162.out) hb); have n3_ := Aside0.mk (Kd.R_elder' (by (with_reducible repeat (first | apply Kd.R_alloc | apply Kd.R_drewN | apply Kd.R_drew)); exact HO166.out) (Kd.R_base ho54) hb); have n4_ := Aside0.mk (Kd.R_lower (Kd.R_new' ho54 (Kd.R_lt (by (with_reducible repeat (first | apply Kd.R_alloc | apply Kd.R_drewN | apply Kd.R_drew)); exact HO166.out))) (below_size (by repeat (first | (with_reducible first | exact HB.out | apply below_alloc | apply pw_below_drewN | apply below_drew1) | exact HB.out)))); have n5_ := Aside0.mk (below_step (by repeat (first | (with_reducible first | exact HB.out | apply below_alloc | apply pw_below_drewN | apply below_drew1) | exact HB.out)) hb); clear HO154; clear HO159; clear HO162; clear HO166; clear HB; have HO154 := n0_; have HO159 := n1_; have HO162 := n2_; have HO166 := n3_; have HO176 := n4_; have HB := n5_; clear n0_ n1_ n2_ n3_ n4_ n5_; clear hb ho54; obtain ⟨Ao55, co55, eo55⟩ := Kd.R_slice HO166.out; subst eo55; obtain ⟨Ao56, co56, eo56⟩ := Kd.R_slice HO176.out; subst eo56) | (go_at_call 28; (with_reducible refine (turndownlaw06_texts.calls k _ _ t163 _ _ y174 true _ ?side1 ?side2 ?side3 ?side4 A21.out).mono ?_); (case side1 => repeat (first | exact (Kd.R_reads' HO166.out).2.2 | (with_reducible refine Kd.C_alloc ?_ _) | (with_reducible refine Kd.C_drewN ?_ _) | (with_reducible refine Kd.C_drew ?_))); (case side2 => exact (Kd.R_reads' HO166.out).2.1); (case side3 => repeat (first | exact (Kd.R_reads' HO176.out).2.2 | (with_reducible refine Kd.C_alloc ?_ _) | (with_reducible refine Kd.C_drewN ?_ _) | (with_reducible refine Kd.C_drew ?_))); (case side4 => exact (Kd.R_reads' HO176.out).2.1); rintro e w' ⟨rfl, ⟨nd, rfl⟩⟩))
       go_meet
       case rel => exact ⟨_, (true), (by first | rfl | (simp; done) | (simp [*]; done)), H', ⟨by first | omega | exact Nat.le_refl _⟩, ⟨by repeat (first | (with_reducible first | exact HB.out | apply below_alloc | apply pw_below_drewN | apply below_drew1) | exact HB.out)⟩⟩
     ·
      replace c22 := Bool.eq_false_iff.mpr c22
      subst c22
      have H1 : (turndownlaw06_awake.j0 k true) = some r := by rw [if_neg (show ¬ (false = true) by decide)] at H; exact H
      clear H
      have H := H1
      clear H1
      have H' := Aside0.mk H
      clear H
      go_wp2_with (first | ((with_reducible refine gate_dst (N := 49) rfl ?_); (try (refine gate_guard (by rfl) ?_; dsimp only)); refine Kd.R_lit Kd.string _ 9 ?hg (N := 49) ?hd (xs := ([(⟨#[49, 48]⟩ : ByteArray), (⟨#[48]⟩ : ByteArray), (⟨#[49, 49]⟩ : ByteArray)] : List ByteArray)) (inner := [.string (⟨#[49, 48]⟩ : ByteArray), .string (⟨#[48]⟩ : ByteArray), .string (⟨#[49, 49]⟩ : ByteArray)]) (ok := fun _ => True) (okp := fun _ => True) ?hr ?hp (fun _ hk => hk) trivial (Below.refl _ _) (Nat.le_refl _) (by simp) ?_; (case hd => rfl); (case hg => rfl); (case hr => first | (go_simp; done) | (go_simp; rfl)); (case hp => exact (Reps.one (show Kd.M Kd.string _ _ _ (⟨#[49, 48]⟩ : ByteArray) [.string (⟨#[49, 48]⟩ : ByteArray)] from rfl) (Reps.one (show Kd.M Kd.string _ _ _ (⟨#[48]⟩ : ByteArray) [.string (⟨#[48]⟩ : ByteArray)] from rfl) (Reps.one (show Kd.M Kd.string _ _ _ (⟨#[49, 49]⟩ : ByteArray) [.string (⟨#[49, 49]⟩ : ByteArray)] from rfl) (Reps.none _ _))))); intro v175 w57 ho58 hb hg_ hnew_; clear hg_ hnew_; (first | rw [← Ny174.out] at ho58 | (simp only [Int.reduceToNat] at ho58; rw [← Ny174.out] at ho58)); have n0_ := Aside0.mk (Kd.R_below (by (with_reducible repeat (first | apply Kd.R_alloc | apply Kd.R_drewN | apply Kd.R_drew)); exact HO154.out) hb); have n1_ := Aside0.mk (Kd.R_below (by (with_reducible repeat (first | apply Kd.R_alloc | apply Kd.R_drewN | apply Kd.R_drew)); exact HO159.out) hb); have n2_ := Aside0.mk (Kd.R_below (by (with_reducible repeat (first | apply Kd.R_alloc | apply Kd.R_drewN | apply Kd.R_drew)); exact HO162.out) hb); have n3_ := Aside0.mk (Kd.R_elder' (by (with_reducible repeat (first | apply Kd.R_alloc | apply Kd.R_drewN | apply Kd.R_drew)); exact HO166.out) (Kd.R_base ho58) hb); have n4_ := Aside0.mk (Kd.R_lower (Kd.R_new' ho58 (Kd.R_lt (by (with_reducible repeat (first | apply Kd.R_alloc | apply Kd.R_drewN | apply Kd.R_drew)); exact HO166.out))) (below_size (by repeat (first | (with_reducible first | exact HB.out | apply below_alloc | apply pw_below_drewN | apply below_drew1) | exact HB.out)))); have n5_ := Aside0.mk (below_step (by repeat (first | (with_reducible first | exact HB.out | apply below_alloc | apply pw_below_drewN | apply below_drew1) | exact HB.out)) hb); clear HO154; clear HO159; clear HO162; clear HO166; clear HB; have HO154 := n0_; have HO159 := n1_; have HO162 := n2_; have HO166 := n3_; have HO176 := n4_; have HB := n5_; clear n0_ n1_ n2_ n3_ n4_ n5_; clear hb ho58; obtain ⟨Ao59, co59, eo59⟩ := Kd.R_slice HO166.out; subst eo59; obtain ⟨Ao60, co60, eo60⟩ := Kd.R_slice HO176.out; subst eo60) | (go_at_call 28; (with_reducible refine (turndownlaw06_texts.calls k _ _ t163 _ _ y174 false _ ?side1 ?side2 ?side3 ?side4 A21.out).mono ?_); (case side1 => repeat (first | exact (Kd.R_reads' HO166.out).2.2 | (with_reducible refine Kd.C_alloc ?_ _) | (with_reducible refine Kd.C_drewN ?_ _) | (with_reducible refine Kd.C_drew ?_))); (case side2 => exact (Kd.R_reads' HO166.out).2.1); (case side3 => repeat (first | exact (Kd.R_reads' HO176.out).2.2 | (with_reducible refine Kd.C_alloc ?_ _) | (with_reducible refine Kd.C_drewN ?_ _) | (with_reducible refine Kd.C_drew ?_))); (case side4 => exact (Kd.R_reads' HO176.out).2.1); rintro e w' ⟨rfl, ⟨nd, rfl⟩⟩))
      go_meet
      case rel => exact ⟨_, (true), (by first | rfl | (simp; done) | (simp [*]; done)), H', ⟨by first | omega | exact Nat.le_refl _⟩, ⟨by repeat (first | (with_reducible first | exact HB.out | apply below_alloc | apply pw_below_drewN | apply below_drew1) | exact HB.out)⟩⟩
    ·
     rw [if_neg c20] at H
     have c20b0 : (t164 == 0) = false := beq_eq_false_iff_ne.mpr c20
     have c20b1 : (t164 != 0) = true := bne_iff_ne.mpr c20
     have H' := Aside0.mk H
     clear H
     go_wp2
     go_meet
     case rel => exact ⟨_, (true), (by first | rfl | (simp; done) | (simp [*]; done)), H', ⟨by first | omega | exact Nat.le_refl _⟩, ⟨by repeat (first | (with_reducible first | exact HB.out | apply below_alloc | apply pw_below_drewN | apply below_drew1) | exact HB.out)⟩⟩
   ·
    rw [if_neg c19] at H
    have c19b0 : (t156 == 14) = false := beq_eq_false_iff_ne.mpr c19
    have c19b1 : (t156 != 14) = true := bne_iff_ne.mpr c19
    have H' := Aside0.mk H
    clear H
    go_wp2
    go_meet
    case rel => exact ⟨_, (true), (by first | rfl | (simp; done) | (simp [*]; done)), H', ⟨by first | omega | exact Nat.le_refl _⟩, ⟨by repeat (first | (with_reducible first | exact HB.out | apply below_alloc | apply pw_below_drewN | apply below_drew1) | exact HB.out)⟩⟩
  ·
   rw [if_neg c18] at H
   have c18b0 : (t157 == 0) = false := beq_eq_false_iff_ne.mpr c18
   have c18b1 : (t157 != 0) = true := bne_iff_ne.mpr c18
   (first | rw [c18b0] | (simp only [i64_w, i32_w]; rw [c18b0]) | skip)
   have H' := Aside0.mk H
   clear H
   go_wp2
   go_meet
   case rel => exact ⟨_, (true), (by first | rfl | (simp; done) | (simp [*]; done)), H', ⟨by first | omega | exact Nat.le_refl _⟩, ⟨by repeat (first | (with_reducible first | exact HB.out | apply below_alloc | apply pw_below_drewN | apply below_drew1) | exact HB.out)⟩⟩
 case rest =>
  clear HC6
  try clear c1
  try clear c2
  try clear p2
  try clear c3
  try clear c18
  try clear c18b0
  try clear c18b1
  try clear c19
  try clear c19b0
  try clear c19b1
  try clear c20
  try clear c20b0
  try clear c20b1
  try clear c22
  try clear c23
  try clear c23b0
  try clear c23b1
  try clear c24
  try clear c24b0
  try clear c24b1
  try clear c25
  try clear c25b0
  try clear c25b1
  try clear c26
  try clear c26b0
  try clear c26b1
  try clear c27
  try clear c27b0
  try clear c27b1
  try clear c28
  try clear c28b0
  try clear c28b1
  try clear c30
  try clear c34
  try clear c36
  obtain ⟨kq, x80_5, rfl, HA, HJ5, HB⟩ := hcut
  cases kq with
  | zero => exact absurd HA.out (by simp [turndownlaw06_awake.j0])
  | succ kj5 =>
   have H := HA.out
   clear HA
   simp only [turndownlaw06_awake.j0] at H
   by_cases c61 : x80_5 = true
   ·
    subst c61
    have H1 : (some false) = some r := by rw [if_pos rfl] at H; exact H
    clear H
    have H := H1
    clear H1
    obtain rfl := Option.some.inj H
    go_wp2
    go_ret
    exact ⟨by first | rfl | (simp [errW_none, errW_some] <;> rfl) | (simp [*, errW_none, errW_some] <;> rfl), by repeat (first | (with_reducible first | exact HB.out | apply below_alloc | apply pw_below_drewN | apply below_drew1) | exact HB.out)⟩
   ·
    replace c61 := Bool.eq_false_iff.mpr c61
    subst c61
    have H1 : (some true) = some r := by rw [if_neg (show ¬ (false = true) by decide)] at H; exact H
    clear H
    have H := H1
    clear H1
    obtain rfl := Option.some.inj H
    go_wp2
    go_ret
    exact ⟨by first | rfl | (simp [errW_none, errW_some] <;> rfl) | (simp [*, errW_none, errW_some] <;> rfl), by repeat (first | (with_reducible first | exact HB.out | apply below_alloc | apply pw_below_drewN | apply below_drew1) | exact HB.out)⟩
end Go.Proofs.Ytcpojohpmcnnhaa.PA

set_option linter.unusedVariables false
set_option linter.unusedSimpArgs false
namespace Go.Proofs.Ytcpojohpmcnnhaa.K
abbrev Pack := Int × List Nat
def wt (L : List Pack) : Int := (L.map (·.1)).sum
section
variable {f : List Pack → List Pack} {ws : List Int} {single : List Pack}
end
end Go.Proofs.Ytcpojohpmcnnhaa.K

set_option linter.unusedVariables false
set_option linter.unusedSimpArgs false
namespace Go.Proofs.Ytcpojohpmcnnhaa.K
def far : Int := 1152921504606846976
def mnI (a b : Int) : Int := if b < a then b else a
def idx (n i o : Nat) : Nat := i * (n + 1) + o
def stepT (n : Nat) (rest : List Int) (i o : Nat) (cost : Int) (st : List Int × Int) (t : Nat) : List Int × Int :=
  if i + t = n then (st.1, mnI st.2 cost)
  else (st.1.set (idx n (i + t) (min n (2 * (o - t)))) (mnI (st.1.getD (idx n (i + t) (min n (2 * (o - t)))) 0) (cost + rest.getD (i + t) 0)), st.2)
def stepO (n : Nat) (rest best : List Int) (i : Nat) (st : List Int × Int) (o' : Nat) : List Int × Int :=
  if best.getD (idx n i (o' + 1)) 0 < far then (List.range (min (o' + 1) (n - i) + 1)).foldl (stepT n rest i (o' + 1) (best.getD (idx n i (o' + 1)) 0)) st else st
def stepI (n : Nat) (rest best : List Int) (st : List Int × Int) (i : Nat) : List Int × Int := (List.range n).foldl (stepO n rest best i) st
def costL (w : List Int) (ls : List Nat) : Int := ((w.zip ls).map fun p => p.1 * ((p.2 : Nat) : Int)).sum
def krL (v : Nat) (ls : List Nat) : Nat := (ls.map fun l => 2 ^ (v - l)).sum
theorem costL_append {w : List Int} {ls : List Nat} {k v : Nat} (h : ls.length ≤ w.length) : costL w (ls ++ List.replicate k v) = costL w ls + ((w.drop ls.length).take k).sum * (v : Int) := by
  induction ls generalizing w with
  | nil =>
    simp only [List.nil_append, List.length_nil, List.drop_zero]
    have e : costL w [] = 0 := by simp [costL]
    rw [e, Int.zero_add]
    induction k generalizing w with
    | zero => simp [costL]
    | succ k ih =>
      cases w with
      | nil => simp [costL]
      | cons x w =>
        have := ih (w := w) (by simp) (by simp [costL])
        simp only [costL, List.replicate_succ, List.zip_cons_cons, List.map_cons, List.sum_cons, List.take_succ_cons] at this ⊢
        rw [this, Int.add_mul]
  | cons l ls ih =>
    cases w with
    | nil => simp at h
    | cons x w =>
      have := ih (w := w) (by simpa using h)
      simp only [costL, List.cons_append, List.zip_cons_cons, List.map_cons, List.sum_cons, List.length_cons, List.drop_succ_cons] at this ⊢
      rw [this]; omega
theorem krL_succ {v : Nat} {ls : List Nat} (h : ∀ l, l ∈ ls → l ≤ v) : krL (v + 1) ls = 2 * krL v ls := by
  induction ls with
  | nil => rfl
  | cons l ls ih =>
    have h1 := ih (fun x hx => h x (by simp [hx]))
    have h2 := h l (by simp)
    simp only [krL, List.map_cons, List.sum_cons] at h1 ⊢
    rw [h1, show v + 1 - l = (v - l) + 1 by omega, Nat.pow_succ]
    omega
theorem krL_rep (v k : Nat) (ls : List Nat) : krL v (ls ++ List.replicate k v) = krL v ls + k := by simp [krL]
structure Held (w : List Int) (n v i o : Nat) (c : Int) : Prop where
  lt : i < n
  some : ∃ ls : List Nat, ls.length = i ∧ (∀ l, l ∈ ls → l < v) ∧ krL v ls + o ≤ 2 ^ v ∧ c = costL w ls + (w.drop i).sum * (v : Int)
def Done (w : List Int) (n v : Nat) (c : Int) : Prop := ∃ ls : List Nat, ls.length = n ∧ (∀ l, l ∈ ls → l ≤ v) ∧ krL v ls ≤ 2 ^ v ∧ c = costL w ls
theorem sum_drop (w : List Int) (i t : Nat) : (w.drop i).sum = ((w.drop i).take t).sum + (w.drop (i + t)).sum := by
  conv => lhs; rw [← List.take_append_drop t (w.drop i), List.sum_append, List.drop_drop]
theorem Held.next {w : List Int} {n v i o t : Nat} {c : Int} (h : Held w n v i o c) (hw : w.length = n) (ht : t ≤ o) (hi : i + t < n) (o' : Nat) (ho : o' ≤ 2 * (o - t)) : Held w n (v + 1) (i + t) o' (c + (w.drop (i + t)).sum) := by
  obtain ⟨ls, h1, h2, h3, rfl⟩ := h.some
  refine ⟨hi, ls ++ List.replicate t v, by simp [h1], fun l hl => ?_, ?_, ?_⟩
  · rcases List.mem_append.1 hl with hl | hl
    · have := h2 l hl; omega
    · rw [List.eq_of_mem_replicate hl]; omega
  · have e : krL (v + 1) (ls ++ List.replicate t v) = 2 * (krL v ls + t) := by
      rw [krL_succ, krL_rep]
      intro l hl
      rcases List.mem_append.1 hl with hl | hl
      · exact Nat.le_of_lt (h2 l hl)
      · rw [List.eq_of_mem_replicate hl]; omega
    rw [e, Nat.pow_succ]; omega
  · rw [costL_append (by omega), h1]
    have := sum_drop w i t
    rw [this]
    push_cast
    rw [Int.add_mul, Int.mul_add, Int.mul_one]
    omega
theorem Held.done {w : List Int} {n v i o : Nat} {c : Int} (h : Held w n v i o c) (hw : w.length = n) (ho : n - i ≤ o) : Done w n v c := by
  obtain ⟨ls, h1, h2, h3, rfl⟩ := h.some
  have hi := h.lt
  refine ⟨ls ++ List.replicate (n - i) v, by simp [h1]; omega, fun l hl => ?_, ?_, ?_⟩
  · rcases List.mem_append.1 hl with hl | hl
    · exact Nat.le_of_lt (h2 l hl)
    · rw [List.eq_of_mem_replicate hl]; exact Nat.le_refl _
  · rw [krL_rep]; omega
  · rw [costL_append (by omega), h1]
    rw [List.take_of_length_le (by rw [List.length_drop]; omega)]
end Go.Proofs.Ytcpojohpmcnnhaa.K

set_option linter.unusedVariables false
set_option linter.unusedSimpArgs false
namespace Go.Proofs.Ytcpojohpmcnnhaa.L
open Go.RowKit Go.Proofs.YtcpojohpmcnnhaaW.PrintWords Go.Proofs.YtcpojohpmcnnhaaW.PrintLast Go.Proofs.YtcpojohpmcnnhaaW.PrintMore
open Go.Proofs.Ytcpojohpmcnnhaa.PA Go.Proofs.Ytcpojohpmcnnhaa.A
theorem within_all (a b c : Int) : code_within.f a b c = some (decide (b ≤ a) && decide (a ≤ c)) := by
  unfold code_within.f
  by_cases h : a ≥ b
  · rw [if_pos h]; simp [h]
  · rw [if_neg h]; simp; omega
theorem w1 {q : Nat} (h : q ≤ 100000000) : wrap64 ((q : Int) + 1) = ((q + 1 : Nat) : Int) := by unfold wrap64; omega
theorem drop_cons {α : Type} {l : List α} {q : Nat} (h : q < l.length) (d : α) : l.drop q = l.getD q d :: l.drop (q + 1) := by
  rw [List.getD_eq_getElem?_getD, List.getElem?_eq_getElem h]
  exact List.drop_eq_getElem_cons h
theorem awake_ev : Ev (fun k => turndownlaw06_awake.f k) true := Ev.of (fun k => turndownlaw06_awake.mono k) (k := 200) (by decide +kernel)
end Go.Proofs.Ytcpojohpmcnnhaa.L

set_option linter.unusedVariables false
set_option linter.unusedSimpArgs false
namespace Go.Proofs.Ytcpojohpmcnnhaa.L
open Go.RowKit Go.Proofs.YtcpojohpmcnnhaaW.PrintWords Go.Proofs.YtcpojohpmcnnhaaW.PrintLast Go.Proofs.YtcpojohpmcnnhaaW.PrintMore
open Go.Proofs.Ytcpojohpmcnnhaa.PA Go.Proofs.Ytcpojohpmcnnhaa.A
def bitsS (s : ByteArray) : Bool := bitsB s.data.toList
def tapB (x : Int) : Bool := decide (1 ≤ x) && decide (x ≤ 15)
theorem tap_all (x : Int) : turndownref06_Tap.f x = some (tapB x) := by
  unfold turndownref06_Tap.f tapB
  by_cases h : x ≥ 1
  · rw [if_pos h]; simp [h]
  · rw [if_neg h]; simp; omega
theorem areTaps_all (x y : Int) : code_areTaps.f x y = some (tapB x && tapB y) := by
  unfold code_areTaps.f
  rw [within_all]
  simp only [Option.bind_some]
  by_cases h : tapB x = true
  · have h' : (decide (1 ≤ x) && decide (x ≤ 15)) = true := h
    rw [if_pos h', within_all, h]; rfl
  · have h' : ¬ (decide (1 ≤ x) && decide (x ≤ 15)) = true := h
    rw [if_neg h']
    have : tapB x = false := by simpa using h
    rw [this]; rfl
theorem bt_nat (s : ByteArray) {q : Nat} (h : q < s.size) : bt s (q : Int) = ((s.data.toList.getD q 0).toNat : Int) := by
  unfold bt
  rw [Int.toNat_natCast, dif_pos h, List.getD_eq_getElem?_getD, Array.getElem?_toList, Array.getElem?_eq_getElem (show q < s.data.size from h)]
  rfl
theorem bitsB_step {l : List UInt8} {q : Nat} (h : q < l.length) : bitsB (l.drop q) = ((l.getD q 0 == 48 || l.getD q 0 == 49) && bitsB (l.drop (q + 1))) := by
  rw [drop_cons h 0]
  simp only [bitsB, List.all_cons]
theorem bits_ev (s : ByteArray) (hs : s.size ≤ 1000000) : Ev (fun k => code_isBits.f k s) (bitsS s) := by
  have hl : s.data.toList.length = s.size := by rw [Array.length_toList]; rfl
  have key : ∀ e q, q + e = s.size → Ev (fun k => code_isBits.l0 k s (s.size : Int) (q : Int)) (bitsB (s.data.toList.drop q)) := by
    intro e
    induction e with
    | zero =>
      intro q hq
      refine Ev.step (fun k => ?_) (Ev.now _)
      rw [code_isBits.l0, if_neg (by omega), List.drop_of_length_le (by omega)]; rfl
    | succ e ih =>
      intro q hq
      have h1 := ih (q + 1) (by omega)
      rw [bitsB_step (by omega)]
      have hst : ∀ k, code_isBits.l0 (k + 1) s (s.size : Int) (q : Int) = if ((s.data.toList.getD q 0).toNat : Int) = 48 then code_isBits.l0 k s (s.size : Int) ((q + 1 : Nat) : Int) else if ((s.data.toList.getD q 0).toNat : Int) = 49 then code_isBits.l0 k s (s.size : Int) ((q + 1 : Nat) : Int) else some false := fun k => by
        rw [code_isBits.l0, if_pos (by omega), if_pos (by omega), if_pos (by omega), bt_nat s (by omega), w1 (by omega)]
      generalize s.data.toList.getD q 0 = c at *
      by_cases c1 : c = 48
      · refine Ev.step (fun k => ?_) (by rw [c1]; exact h1)
        rw [hst, if_pos (by rw [c1]; rfl)]
      · have n1 : ¬ ((c.toNat : Int) = 48) := fun h => c1 (UInt8.toNat_inj.1 (by rw [show c.toNat = 48 by omega]; rfl))
        by_cases c2 : c = 49
        · refine Ev.step (fun k => ?_) (by rw [c2]; exact h1)
          rw [hst, if_neg n1, if_pos (by rw [c2]; rfl)]
        · have n2 : ¬ ((c.toNat : Int) = 49) := fun h => c2 (UInt8.toNat_inj.1 (by rw [show c.toNat = 49 by omega]; rfl))
          refine Ev.step (fun k => ?_) (Ev.now _)
          rw [hst, if_neg n1, if_neg n2]
          have : (c == 48 || c == 49) = false := by simp [c1, c2]
          rw [this]; rfl
  have := key s.size 0 (by omega)
  rw [List.drop_zero] at this
  exact this
theorem refBits_ev (s : ByteArray) (hs : s.size ≤ 1000000) : Ev (fun k => turndownref06_Bits.f k s) (bitsS s) := by
  have hl : s.data.toList.length = s.size := by rw [Array.length_toList]; rfl
  have key : ∀ e q, q + e = s.size → Ev (fun k => turndownref06_Bits.l0 k s (q : Int)) (bitsB (s.data.toList.drop q)) := by
    intro e
    induction e with
    | zero =>
      intro q hq
      refine Ev.step (fun k => ?_) (Ev.now _)
      rw [turndownref06_Bits.l0, if_neg (by omega), List.drop_of_length_le (by omega)]; rfl
    | succ e ih =>
      intro q hq
      have h1 := ih (q + 1) (by omega)
      rw [bitsB_step (by omega)]
      have hst : ∀ k, turndownref06_Bits.l0 (k + 1) s (q : Int) = if ((s.data.toList.getD q 0).toNat : Int) = 48 then turndownref06_Bits.l0 k s ((q + 1 : Nat) : Int) else if ((s.data.toList.getD q 0).toNat : Int) = 49 then turndownref06_Bits.l0 k s ((q + 1 : Nat) : Int) else some false := fun k => by
        rw [turndownref06_Bits.l0, if_pos (by omega), if_pos (by omega), bt_nat s (by omega), w1 (by omega)]
      generalize s.data.toList.getD q 0 = c at *
      by_cases c1 : c = 48
      · refine Ev.step (fun k => ?_) (by rw [c1]; exact h1)
        rw [hst, if_pos (by rw [c1]; rfl)]
      · have n1 : ¬ ((c.toNat : Int) = 48) := fun h => c1 (UInt8.toNat_inj.1 (by rw [show c.toNat = 48 by omega]; rfl))
        by_cases c2 : c = 49
        · refine Ev.step (fun k => ?_) (by rw [c2]; exact h1)
          rw [hst, if_neg n1, if_pos (by rw [c2]; rfl)]
        · have n2 : ¬ ((c.toNat : Int) = 49) := fun h => c2 (UInt8.toNat_inj.1 (by rw [show c.toNat = 49 by omega]; rfl))
          refine Ev.step (fun k => ?_) (Ev.now _)
          rw [hst, if_neg n1, if_neg n2]
          have : (c == 48 || c == 49) = false := by simp [c1, c2]
          rw [this]; rfl
  have := key s.size 0 (by omega)
  rw [List.drop_zero] at this
  exact this
end Go.Proofs.Ytcpojohpmcnnhaa.L

set_option linter.unusedVariables false
set_option linter.unusedSimpArgs false
namespace Go.Proofs.Ytcpojohpmcnnhaa.L
open Go.RowKit Go.Proofs.YtcpojohpmcnnhaaW.PrintWords Go.Proofs.YtcpojohpmcnnhaaW.PrintLast Go.Proofs.YtcpojohpmcnnhaaW.PrintMore
open Go.Proofs.Ytcpojohpmcnnhaa.PA Go.Proofs.Ytcpojohpmcnnhaa.A Go.Proofs.Ytcpojohpmcnnhaa.K
theorem getD_mem {l : List Int} {s : Nat} (hs : s < l.length) : l.getD s 0 ∈ l := by
  rw [List.getD_eq_getElem?_getD, List.getElem?_eq_getElem hs]
  exact List.getElem_mem hs
end Go.Proofs.Ytcpojohpmcnnhaa.L

set_option linter.unusedVariables false
set_option linter.unusedSimpArgs false
namespace Go.Proofs.Ytcpojohpmcnnhaa.L
open Go.RowKit Go.Proofs.YtcpojohpmcnnhaaW.PrintWords Go.Proofs.YtcpojohpmcnnhaaW.PrintLast Go.Proofs.YtcpojohpmcnnhaaW.PrintMore
open Go.Proofs.Ytcpojohpmcnnhaa.PA Go.Proofs.Ytcpojohpmcnnhaa.A
theorem data_len (s : ByteArray) : s.data.toList.length = s.size := by rw [Array.length_toList]; rfl
theorem list_size (l : List UInt8) : (⟨l.toArray⟩ : ByteArray).size = l.length := by
  rw [← data_len]
end Go.Proofs.Ytcpojohpmcnnhaa.L

set_option linter.unusedVariables false
set_option linter.unusedSimpArgs false
namespace Go.Proofs.Ytcpojohpmcnnhaa.L
open Go.RowKit Go.Proofs.YtcpojohpmcnnhaaW.PrintWords Go.Proofs.YtcpojohpmcnnhaaW.PrintLast Go.Proofs.YtcpojohpmcnnhaaW.PrintMore
open Go.Proofs.Ytcpojohpmcnnhaa.PA Go.Proofs.Ytcpojohpmcnnhaa.A
def VR (g h : Nat) (s : ByteArray) (n i t : Nat) : Int := (rowR g h s n i).getD t 0
theorem step_bd (g h : Nat) (s : ByteArray) (i v : Nat) : 0 ≤ stepI g h s i v ∧ stepI g h s i v ≤ 2 := by
  unfold stepI; exact differ_bd _ _ _ _
theorem VR_end (g h : Nat) (s : ByteArray) (n t : Nat) : VR g h s n n t = 0 := by
  unfold VR
  rw [rowR_end]
  match t with
  | 0 | 1 | 2 | 3 | 4 | 5 | 6 | 7 => rfl
  | t + 8 => rfl
theorem VR_bell (g h : Nat) (s : ByteArray) {n i t : Nat} (hi : i < n) (ht : t < 8) : VR g h s n i t = if n ≤ i + 3 then min 1048576 (stepI g h s (2 * i) (2 * t) + VR g h s n (i + 1) (2 * t % 8)) else min (min 1048576 (stepI g h s (2 * i) (2 * t) + VR g h s n (i + 1) (2 * t % 8))) (stepI g h s (2 * i) (2 * t + 1) + VR g h s n (i + 1) ((2 * t + 1) % 8)) := by
  have e : VR g h s n i t = backC g h s (rowR g h s n (i + 1)) (2 * i) (decide ((n : Int) - 3 ≤ (i : Int))) t 2 := by
    unfold VR
    rw [rowR_step g h s hi]
    unfold backK
    rw [List.getD_eq_getElem?_getD, List.getElem?_map, List.getElem?_range ht]
    simp only [Option.map_some, Option.getD_some]
    rw [if_pos ht]
  have e1 : backC g h s (rowR g h s n (i + 1)) (2 * i) (decide ((n : Int) - 3 ≤ (i : Int))) t 1 = min 1048576 (stepI g h s (2 * i) (2 * t) + VR g h s n (i + 1) (2 * t % 8)) := by
    rw [backC, if_neg (by rintro ⟨_, h⟩; omega), backC]; rfl
  rw [e, backC, e1]
  by_cases hl : n ≤ i + 3
  · rw [if_pos hl, if_pos ⟨decide_eq_true (by omega), rfl⟩]
  · rw [if_neg hl, if_neg (by rintro ⟨h, _⟩; have := of_decide_eq_true h; omega)]; rfl
theorem VR_bd (g h : Nat) (s : ByteArray) {n : Nat} (hn : n ≤ 1000) : ∀ d i t, i + d = n → t < 8 → 0 ≤ VR g h s n i t ∧ VR g h s n i t ≤ 2 * (d : Int)
  | 0, i, t, hi, ht => by
    obtain rfl : i = n := by omega
    rw [VR_end]; omega
  | d + 1, i, t, hi, ht => by
    have ih := VR_bd g h s hn d (i + 1)
    have h0 := ih (2 * t % 8) (by omega) (by omega)
    have h1 := ih ((2 * t + 1) % 8) (by omega) (by omega)
    have s0 := step_bd g h s (2 * i) (2 * t)
    have s1 := step_bd g h s (2 * i) (2 * t + 1)
    rw [VR_bell g h s (by omega) ht]
    split <;> omega
theorem VR_last (g h : Nat) (s : ByteArray) {n i t : Nat} (hn : n ≤ 1000) (hi : i < n) (ht : t < 8) (hl : n ≤ i + 3) : VR g h s n i t = stepI g h s (2 * i) (2 * t) + VR g h s n (i + 1) (2 * t % 8) := by
  have h0 := VR_bd g h s hn (n - (i + 1)) (i + 1) (2 * t % 8) (by omega) (by omega)
  have s0 := step_bd g h s (2 * i) (2 * t)
  rw [VR_bell g h s hi ht, if_pos hl]
  omega
theorem VR_free (g h : Nat) (s : ByteArray) {n i t : Nat} (hn : n ≤ 1000) (hi : i < n) (ht : t < 8) (hl : ¬ n ≤ i + 3) : VR g h s n i t = min (stepI g h s (2 * i) (2 * t) + VR g h s n (i + 1) (2 * t % 8)) (stepI g h s (2 * i) (2 * t + 1) + VR g h s n (i + 1) ((2 * t + 1) % 8)) := by
  have h0 := VR_bd g h s hn (n - (i + 1)) (i + 1) (2 * t % 8) (by omega) (by omega)
  have s0 := step_bd g h s (2 * i) (2 * t)
  rw [VR_bell g h s hi ht, if_neg hl]
  omega
theorem bitR_01 (g h : Nat) (s : ByteArray) (n i t : Nat) : bitR g h s n i t = 0 ∨ bitR g h s n i t = 1 := by
  unfold bitR; split <;> omega
end Go.Proofs.Ytcpojohpmcnnhaa.L

set_option linter.unusedVariables false
set_option linter.unusedSimpArgs false
namespace Go.Proofs.Ytcpojohpmcnnhaa.L
open Go.RowKit Go.Proofs.YtcpojohpmcnnhaaW.PrintWords Go.Proofs.YtcpojohpmcnnhaaW.PrintLast Go.Proofs.YtcpojohpmcnnhaaW.PrintMore
open Go.Proofs.Ytcpojohpmcnnhaa.PA Go.Proofs.Ytcpojohpmcnnhaa.A
def readM (c : ByteArray) (x y : Int) (n : Nat) : ByteArray := ⟨(msgR x.toNat y.toNat c n (n - 3)).toArray⟩
theorem read_ev {c : ByteArray} {x y : Int} {n : Nat} (hs : c.size = 2 * n) (h3 : 3 ≤ n) (hn : n ≤ 67) (hb : bitsS c = true) (hx : 1 ≤ x ∧ x ≤ 15) (hy : 1 ≤ y ∧ y ≤ 15) : Ev (fun k => code_Read.f k c x y) (readM c x y n, VR x.toNat y.toNat c n 0 0, 0) := by
  have tx : tapB x = true := by unfold tapB; simp; omega
  have ty : tapB y = true := by unfold tapB; simp; omega
  have hr : code_taps_read.f x y c = some (readM c x y n, VR x.toNat y.toNat c n 0 0) := by
    unfold code_taps_read.f
    rw [if_pos ⟨⟨by omega, by omega, by omega, by omega⟩, by omega, by omega, by omega⟩, show c.size / 2 = n by omega]
    rfl
  unfold code_Read.f
  simp only [if_pos (show (c.size : Int) % 2 = 0 by omega), within_all, Option.bind_some]
  rw [decide_eq_true (show (6 : Int) ≤ (c.size : Int) by omega), decide_eq_true (show (c.size : Int) ≤ 134 by omega)]
  simp only [Bool.and_self, if_true]
  refine Ev.bind (bits_ev c (by omega)) ?_
  rw [hb]
  simp only [if_true, areTaps_all, tx, ty, Bool.and_self, Option.bind_some, hr]
  exact Ev.now _
end Go.Proofs.Ytcpojohpmcnnhaa.L
