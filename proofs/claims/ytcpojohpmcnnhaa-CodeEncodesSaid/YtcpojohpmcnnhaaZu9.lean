/- What the statements of this seat lean on: the functions that they reach, walked. -/
import Derived.Deep.DeepMust
import Derived.Test.YtcpojohpmcnnhaaZu8
set_option linter.unusedSimpArgs false
set_option linter.unusedVariables false

namespace Go.Proofs.Ytcpojohpmcnnhaa.PA
open Go.RowKit Go.Proofs.YtcpojohpmcnnhaaW.PrintWords Go.Proofs.YtcpojohpmcnnhaaW.PrintLast Go.Proofs.YtcpojohpmcnnhaaW.PrintMore
attribute [local go_sem] max2_int min2_int max_two min_two max_three min_three max_four min_four
set_option linter.unusedVariables false
set_option linter.unusedSimpArgs false
def turndownlaw06_awake.j0 : Nat → Bool → Option (Bool)
 | 0, _ => none
 | k + 1, x80 => if x80 = true then (some false) else (some true)
def turndownlaw06_awake.f (k : Nat)  : Option (Bool) := (code_Best.f k (([1, 1, 2, 4] : List Int)) 32).bind fun bt155 => ((code_Code.f k (([2, 1, 2] : List Int))).bind fun bt163 => ((code_Card.f k (⟨#[49]⟩ : ByteArray) 7 5).bind fun bt167 => ((code_Read.f k (⟨#[49, 49, 49, 48, 49, 49, 48, 48]⟩ : ByteArray) 7 5).bind fun bt169 => ((code_Free.f 7 5).bind fun bt172 => (if bt155.2.2 = 0 then (if bt155.2.1 = 14 then (if bt163.2 = 0 then ((turndownlaw06_texts.f k bt163.1 (([(⟨#[49, 48]⟩ : ByteArray), (⟨#[48]⟩ : ByteArray), (⟨#[49, 49]⟩ : ByteArray)] : List ByteArray))).bind fun t177 => (if t177 = true then (if bt167.2 = 0 then (if bt167.1.toList = ([49, 49, 49, 48, 49, 49, 48, 48] : List UInt8) then (if bt169.2.2 = 0 then (if bt169.1.toList = ([49] : List UInt8) then (if bt169.2.1 = 0 then (if bt172.2 = 0 then (turndownlaw06_awake.j0 k (bt172.1 != 5)) else (turndownlaw06_awake.j0 k true)) else (turndownlaw06_awake.j0 k true)) else (turndownlaw06_awake.j0 k true)) else (turndownlaw06_awake.j0 k true)) else (turndownlaw06_awake.j0 k true)) else (turndownlaw06_awake.j0 k true)) else (turndownlaw06_awake.j0 k true))) else (turndownlaw06_awake.j0 k true)) else (turndownlaw06_awake.j0 k true)) else (turndownlaw06_awake.j0 k true))))))
theorem turndownlaw06_awake.mono_l : ∀ k, (∀ y0, LeO (turndownlaw06_awake.j0 k y0) (turndownlaw06_awake.j0 (k + 1) y0))
 | 0 => fun _ r h => by simp [turndownlaw06_awake.j0] at h
 | k + 1 => by
  have ih0 := turndownlaw06_awake.mono_l k
  ·
   intro y0
   unfold turndownlaw06_awake.j0
   repeat' first
   | (with_reducible exact ih0 _)
   | (with_reducible exact code_Best.mono _ _ _)
   | (with_reducible exact code_Card.mono _ _ _ _)
   | (with_reducible exact code_Code.mono _ _)
   | (with_reducible exact code_Read.mono _ _ _ _)
   | (with_reducible exact turndownlaw06_texts.mono _ _ _)
   | (with_reducible exact LeO.refl _)
   | (with_reducible exact LeO.none _)
   | (with_reducible refine LeO.ite ?_ ?_)
   | (with_reducible refine LeO.bind ?_ (fun _ => ?_))
   | exact ih0 _
   | exact code_Best.mono _ _ _
   | exact code_Card.mono _ _ _ _
   | exact code_Code.mono _ _
   | exact code_Read.mono _ _ _ _
   | exact turndownlaw06_texts.mono _ _ _
   | exact LeO.none _
   | refine LeO.ite ?_ ?_
   | refine LeO.bind ?_ (fun _ => ?_)
theorem turndownlaw06_awake.mono : ∀ k, LeO (turndownlaw06_awake.f k ) (turndownlaw06_awake.f (k + 1) ) := by
 intro  k
 have ih0 := turndownlaw06_awake.mono_l k
 unfold turndownlaw06_awake.f
 repeat' first
   | (with_reducible exact ih0 _)
   | (with_reducible exact code_Best.mono _ _ _)
   | (with_reducible exact code_Card.mono _ _ _ _)
   | (with_reducible exact code_Code.mono _ _)
   | (with_reducible exact code_Read.mono _ _ _ _)
   | (with_reducible exact turndownlaw06_texts.mono _ _ _)
   | (with_reducible exact LeO.refl _)
   | (with_reducible exact LeO.none _)
   | (with_reducible refine LeO.ite ?_ ?_)
   | (with_reducible refine LeO.bind ?_ (fun _ => ?_))
   | exact ih0 _
   | exact code_Best.mono _ _ _
   | exact code_Card.mono _ _ _ _
   | exact code_Code.mono _ _
   | exact code_Read.mono _ _ _ _
   | exact turndownlaw06_texts.mono _ _ _
   | exact LeO.none _
   | refine LeO.ite ?_ ?_
   | refine LeO.bind ?_ (fun _ => ?_)
set_option maxHeartbeats 8000000 in
set_option maxRecDepth 100000 in
theorem turndownlaw06_awake.calls (k : Nat)  (r : Bool) (w : World) (h : turndownlaw06_awake.f k  = some r) :
  Calls Try.prog 22 #[] w fun e w' => e = .returned (.bool r) ∧ Below w.heap.size w w' := by
 have HB := Aside0.mk (Below.refl w.heap.size w)
 have H : ((code_Best.f k (([1, 1, 2, 4] : List Int)) 32).bind fun bt155 => ((code_Code.f k (([2, 1, 2] : List Int))).bind fun bt163 => ((code_Card.f k (⟨#[49]⟩ : ByteArray) 7 5).bind fun bt167 => ((code_Read.f k (⟨#[49, 49, 49, 48, 49, 49, 48, 48]⟩ : ByteArray) 7 5).bind fun bt169 => ((code_Free.f 7 5).bind fun bt172 => (if bt155.2.2 = 0 then (if bt155.2.1 = 14 then (if bt163.2 = 0 then ((turndownlaw06_texts.f k bt163.1 (([(⟨#[49, 48]⟩ : ByteArray), (⟨#[48]⟩ : ByteArray), (⟨#[49, 49]⟩ : ByteArray)] : List ByteArray))).bind fun t177 => (if t177 = true then (if bt167.2 = 0 then (if bt167.1.toList = ([49, 49, 49, 48, 49, 49, 48, 48] : List UInt8) then (if bt169.2.2 = 0 then (if bt169.1.toList = ([49] : List UInt8) then (if bt169.2.1 = 0 then (if bt172.2 = 0 then (turndownlaw06_awake.j0 k (bt172.1 != 5)) else (turndownlaw06_awake.j0 k true)) else (turndownlaw06_awake.j0 k true)) else (turndownlaw06_awake.j0 k true)) else (turndownlaw06_awake.j0 k true)) else (turndownlaw06_awake.j0 k true)) else (turndownlaw06_awake.j0 k true)) else (turndownlaw06_awake.j0 k true))) else (turndownlaw06_awake.j0 k true)) else (turndownlaw06_awake.j0 k true)) else (turndownlaw06_awake.j0 k true))))))) = some r := h
 clear h
 obtain ⟨y152, hy152⟩ : ∃ y_ : List Int, y_ = (([1, 1, 2, 4] : List Int)) := ⟨_, rfl⟩
 replace H : ((code_Best.f k y152 32).bind fun bt155 => ((code_Code.f k (([2, 1, 2] : List Int))).bind fun bt163 => ((code_Card.f k (⟨#[49]⟩ : ByteArray) 7 5).bind fun bt167 => ((code_Read.f k (⟨#[49, 49, 49, 48, 49, 49, 48, 48]⟩ : ByteArray) 7 5).bind fun bt169 => ((code_Free.f 7 5).bind fun bt172 => (if bt155.2.2 = 0 then (if bt155.2.1 = 14 then (if bt163.2 = 0 then ((turndownlaw06_texts.f k bt163.1 (([(⟨#[49, 48]⟩ : ByteArray), (⟨#[48]⟩ : ByteArray), (⟨#[49, 49]⟩ : ByteArray)] : List ByteArray))).bind fun t177 => (if t177 = true then (if bt167.2 = 0 then (if bt167.1.toList = ([49, 49, 49, 48, 49, 49, 48, 48] : List UInt8) then (if bt169.2.2 = 0 then (if bt169.1.toList = ([49] : List UInt8) then (if bt169.2.1 = 0 then (if bt172.2 = 0 then (turndownlaw06_awake.j0 k (bt172.1 != 5)) else (turndownlaw06_awake.j0 k true)) else (turndownlaw06_awake.j0 k true)) else (turndownlaw06_awake.j0 k true)) else (turndownlaw06_awake.j0 k true)) else (turndownlaw06_awake.j0 k true)) else (turndownlaw06_awake.j0 k true)) else (turndownlaw06_awake.j0 k true))) else (turndownlaw06_awake.j0 k true)) else (turndownlaw06_awake.j0 k true)) else (turndownlaw06_awake.j0 k true))))))) = some r := by first | (rw [hy152]; with_reducible exact H) | (have H2_ := (Option.bind_some _ _).symm.trans H; rw [hy152]; with_reducible exact H2_) | (have H2_ := (Option.bind_some _ _).symm.trans H; with_reducible exact H2_) | with_reducible exact H | (rw [hy152]; exact H) | exact H
 have Ny152 := Aside0.mk hy152
 clear hy152
 replace H := Option.bind_eq_some_iff.mp H
 obtain ⟨⟨t155, t156, t157⟩, A10, H⟩ := H
 replace H : ((code_Code.f k (([2, 1, 2] : List Int))).bind fun bt163 => ((code_Card.f k (⟨#[49]⟩ : ByteArray) 7 5).bind fun bt167 => ((code_Read.f k (⟨#[49, 49, 49, 48, 49, 49, 48, 48]⟩ : ByteArray) 7 5).bind fun bt169 => ((code_Free.f 7 5).bind fun bt172 => (if t157 = 0 then (if t156 = 14 then (if bt163.2 = 0 then ((turndownlaw06_texts.f k bt163.1 (([(⟨#[49, 48]⟩ : ByteArray), (⟨#[48]⟩ : ByteArray), (⟨#[49, 49]⟩ : ByteArray)] : List ByteArray))).bind fun t177 => (if t177 = true then (if bt167.2 = 0 then (if bt167.1.toList = ([49, 49, 49, 48, 49, 49, 48, 48] : List UInt8) then (if bt169.2.2 = 0 then (if bt169.1.toList = ([49] : List UInt8) then (if bt169.2.1 = 0 then (if bt172.2 = 0 then (turndownlaw06_awake.j0 k (bt172.1 != 5)) else (turndownlaw06_awake.j0 k true)) else (turndownlaw06_awake.j0 k true)) else (turndownlaw06_awake.j0 k true)) else (turndownlaw06_awake.j0 k true)) else (turndownlaw06_awake.j0 k true)) else (turndownlaw06_awake.j0 k true)) else (turndownlaw06_awake.j0 k true))) else (turndownlaw06_awake.j0 k true)) else (turndownlaw06_awake.j0 k true)) else (turndownlaw06_awake.j0 k true)))))) = some r := H
 have A1 := Aside0.mk A10
 clear A10
 obtain ⟨y160, hy160⟩ : ∃ y_ : List Int, y_ = (([2, 1, 2] : List Int)) := ⟨_, rfl⟩
 replace H : ((code_Code.f k y160).bind fun bt163 => ((code_Card.f k (⟨#[49]⟩ : ByteArray) 7 5).bind fun bt167 => ((code_Read.f k (⟨#[49, 49, 49, 48, 49, 49, 48, 48]⟩ : ByteArray) 7 5).bind fun bt169 => ((code_Free.f 7 5).bind fun bt172 => (if t157 = 0 then (if t156 = 14 then (if bt163.2 = 0 then ((turndownlaw06_texts.f k bt163.1 (([(⟨#[49, 48]⟩ : ByteArray), (⟨#[48]⟩ : ByteArray), (⟨#[49, 49]⟩ : ByteArray)] : List ByteArray))).bind fun t177 => (if t177 = true then (if bt167.2 = 0 then (if bt167.1.toList = ([49, 49, 49, 48, 49, 49, 48, 48] : List UInt8) then (if bt169.2.2 = 0 then (if bt169.1.toList = ([49] : List UInt8) then (if bt169.2.1 = 0 then (if bt172.2 = 0 then (turndownlaw06_awake.j0 k (bt172.1 != 5)) else (turndownlaw06_awake.j0 k true)) else (turndownlaw06_awake.j0 k true)) else (turndownlaw06_awake.j0 k true)) else (turndownlaw06_awake.j0 k true)) else (turndownlaw06_awake.j0 k true)) else (turndownlaw06_awake.j0 k true)) else (turndownlaw06_awake.j0 k true))) else (turndownlaw06_awake.j0 k true)) else (turndownlaw06_awake.j0 k true)) else (turndownlaw06_awake.j0 k true)))))) = some r := by first | (rw [hy160]; with_reducible exact H) | (have H2_ := (Option.bind_some _ _).symm.trans H; rw [hy160]; with_reducible exact H2_) | (have H2_ := (Option.bind_some _ _).symm.trans H; with_reducible exact H2_) | with_reducible exact H | (rw [hy160]; exact H) | exact H
 have Ny160 := Aside0.mk hy160
 clear hy160
 replace H := Option.bind_eq_some_iff.mp H
 obtain ⟨⟨t163, t164⟩, A20, H⟩ := H
 replace H : ((code_Card.f k (⟨#[49]⟩ : ByteArray) 7 5).bind fun bt167 => ((code_Read.f k (⟨#[49, 49, 49, 48, 49, 49, 48, 48]⟩ : ByteArray) 7 5).bind fun bt169 => ((code_Free.f 7 5).bind fun bt172 => (if t157 = 0 then (if t156 = 14 then (if t164 = 0 then ((turndownlaw06_texts.f k t163 (([(⟨#[49, 48]⟩ : ByteArray), (⟨#[48]⟩ : ByteArray), (⟨#[49, 49]⟩ : ByteArray)] : List ByteArray))).bind fun t177 => (if t177 = true then (if bt167.2 = 0 then (if bt167.1.toList = ([49, 49, 49, 48, 49, 49, 48, 48] : List UInt8) then (if bt169.2.2 = 0 then (if bt169.1.toList = ([49] : List UInt8) then (if bt169.2.1 = 0 then (if bt172.2 = 0 then (turndownlaw06_awake.j0 k (bt172.1 != 5)) else (turndownlaw06_awake.j0 k true)) else (turndownlaw06_awake.j0 k true)) else (turndownlaw06_awake.j0 k true)) else (turndownlaw06_awake.j0 k true)) else (turndownlaw06_awake.j0 k true)) else (turndownlaw06_awake.j0 k true)) else (turndownlaw06_awake.j0 k true))) else (turndownlaw06_awake.j0 k true)) else (turndownlaw06_awake.j0 k true)) else (turndownlaw06_awake.j0 k true))))) = some r := H
 have A2 := Aside0.mk A20
 clear A20
 replace H := Option.bind_eq_some_iff.mp H
 obtain ⟨⟨t167, t168⟩, A30, H⟩ := H
 replace H : ((code_Read.f k (⟨#[49, 49, 49, 48, 49, 49, 48, 48]⟩ : ByteArray) 7 5).bind fun bt169 => ((code_Free.f 7 5).bind fun bt172 => (if t157 = 0 then (if t156 = 14 then (if t164 = 0 then ((turndownlaw06_texts.f k t163 (([(⟨#[49, 48]⟩ : ByteArray), (⟨#[48]⟩ : ByteArray), (⟨#[49, 49]⟩ : ByteArray)] : List ByteArray))).bind fun t177 => (if t177 = true then (if t168 = 0 then (if t167.toList = ([49, 49, 49, 48, 49, 49, 48, 48] : List UInt8) then (if bt169.2.2 = 0 then (if bt169.1.toList = ([49] : List UInt8) then (if bt169.2.1 = 0 then (if bt172.2 = 0 then (turndownlaw06_awake.j0 k (bt172.1 != 5)) else (turndownlaw06_awake.j0 k true)) else (turndownlaw06_awake.j0 k true)) else (turndownlaw06_awake.j0 k true)) else (turndownlaw06_awake.j0 k true)) else (turndownlaw06_awake.j0 k true)) else (turndownlaw06_awake.j0 k true)) else (turndownlaw06_awake.j0 k true))) else (turndownlaw06_awake.j0 k true)) else (turndownlaw06_awake.j0 k true)) else (turndownlaw06_awake.j0 k true)))) = some r := H
 have A3 := Aside0.mk A30
 clear A30
 replace H := Option.bind_eq_some_iff.mp H
 obtain ⟨⟨t169, t170, t171⟩, A40, H⟩ := H
 replace H : ((code_Free.f 7 5).bind fun bt172 => (if t157 = 0 then (if t156 = 14 then (if t164 = 0 then ((turndownlaw06_texts.f k t163 (([(⟨#[49, 48]⟩ : ByteArray), (⟨#[48]⟩ : ByteArray), (⟨#[49, 49]⟩ : ByteArray)] : List ByteArray))).bind fun t177 => (if t177 = true then (if t168 = 0 then (if t167.toList = ([49, 49, 49, 48, 49, 49, 48, 48] : List UInt8) then (if t171 = 0 then (if t169.toList = ([49] : List UInt8) then (if t170 = 0 then (if bt172.2 = 0 then (turndownlaw06_awake.j0 k (bt172.1 != 5)) else (turndownlaw06_awake.j0 k true)) else (turndownlaw06_awake.j0 k true)) else (turndownlaw06_awake.j0 k true)) else (turndownlaw06_awake.j0 k true)) else (turndownlaw06_awake.j0 k true)) else (turndownlaw06_awake.j0 k true)) else (turndownlaw06_awake.j0 k true))) else (turndownlaw06_awake.j0 k true)) else (turndownlaw06_awake.j0 k true)) else (turndownlaw06_awake.j0 k true))) = some r := H
 have A4 := Aside0.mk A40
 clear A40
 replace H := Option.bind_eq_some_iff.mp H
 obtain ⟨⟨t172, t173⟩, A50, H⟩ := H
 replace H : (if t157 = 0 then (if t156 = 14 then (if t164 = 0 then ((turndownlaw06_texts.f k t163 (([(⟨#[49, 48]⟩ : ByteArray), (⟨#[48]⟩ : ByteArray), (⟨#[49, 49]⟩ : ByteArray)] : List ByteArray))).bind fun t177 => (if t177 = true then (if t168 = 0 then (if t167.toList = ([49, 49, 49, 48, 49, 49, 48, 48] : List UInt8) then (if t171 = 0 then (if t169.toList = ([49] : List UInt8) then (if t170 = 0 then (if t173 = 0 then (turndownlaw06_awake.j0 k (t172 != 5)) else (turndownlaw06_awake.j0 k true)) else (turndownlaw06_awake.j0 k true)) else (turndownlaw06_awake.j0 k true)) else (turndownlaw06_awake.j0 k true)) else (turndownlaw06_awake.j0 k true)) else (turndownlaw06_awake.j0 k true)) else (turndownlaw06_awake.j0 k true))) else (turndownlaw06_awake.j0 k true)) else (turndownlaw06_awake.j0 k true)) else (turndownlaw06_awake.j0 k true)) = some r := H
 have A5 := Aside0.mk A50
 clear A50
 have HC6 := Aside0.mk H
 clear H
 go_enter Try.func22, Try.ntmps22
 go_upto_region 6 with (first | ((with_reducible refine gate_dst (N := 14) rfl ?_); (try (refine gate_guard (by rfl) ?_; dsimp only)); refine Kd.R_lit (Kd.int .i64) _ 3 ?hg (N := 14) ?hd (xs := ([1, 1, 2, 4] : List Int)) (inner := [.int .i64 1, .int .i64 1, .int .i64 2, .int .i64 4]) (ok := fun _ => True) (okp := fun _ => True) ?hr ?hp (fun _ hk => hk) trivial (Below.refl _ _) (Nat.le_refl _) (by simp) ?_; (case hd => rfl); (case hg => rfl); (case hr => first | (go_simp; done) | (go_simp; rfl)); (case hp => exact (Reps.one (show Kd.M (Kd.int .i64) _ _ _ 1 [.int .i64 1] from rfl) (Reps.one (show Kd.M (Kd.int .i64) _ _ _ 1 [.int .i64 1] from rfl) (Reps.one (show Kd.M (Kd.int .i64) _ _ _ 2 [.int .i64 2] from rfl) (Reps.one (show Kd.M (Kd.int .i64) _ _ _ 4 [.int .i64 4] from rfl) (Reps.none _ _)))))); intro v153 w7 ho8 hb hg_ hnew_; clear hg_ hnew_; (first | rw [← Ny152.out] at ho8 | (simp only [Int.reduceToNat] at ho8; rw [← Ny152.out] at ho8)); have n0_ := Aside0.mk (Kd.R_lower ho8 (below_size (by repeat (first | (with_reducible first | exact HB.out | apply below_alloc | apply pw_below_drewN | apply below_drew1) | exact HB.out)))); have n1_ := Aside0.mk (below_step (by repeat (first | (with_reducible first | exact HB.out | apply below_alloc | apply pw_below_drewN | apply below_drew1) | exact HB.out)) hb); clear HB; have HO154 := n0_; have HB := n1_; clear n0_ n1_; clear hb ho8; obtain ⟨Ao9, co9, eo9⟩ := Kd.R_slice HO154.out; subst eo9) | ((with_reducible refine gate_callee (f := 20) rfl ?_); refine goesL_ (some 15) rfl rfl Try.func20 (by kernel_rfl) rfl #[.slice Ao9 y152.length co9, .int .i64 32] rfl (by (try simp only [List.map_toArray, List.map_cons, List.map_nil]); first | done | rfl | (simp only [List.length_drop, List.length_take]; rfl)) ?_; (with_reducible refine (code_Best.calls k _ _ y152 32 t155 t156 t157 _ ?side1 ?side2 A1.out).mono ?_); (case side1 => repeat (first | exact (Kd.R_reads' HO154.out).2.2 | (with_reducible refine Kd.C_alloc ?_ _) | (with_reducible refine Kd.C_drewN ?_ _) | (with_reducible refine Kd.C_drew ?_))); (case side2 => exact (Kd.R_reads' HO154.out).2.1); rintro e w10 ⟨v158, rfl, ho0, hb⟩; refine ⟨_, rfl, ?_⟩; have n0_ := Aside0.mk (Kd.R_elder' (by (with_reducible repeat (first | apply Kd.R_alloc | apply Kd.R_drewN | apply Kd.R_drew)); exact HO154.out) (Kd.R_base ho0) hb); have n1_ := Aside0.mk (Kd.R_lower (Kd.R_new' ho0 (Kd.R_lt (by (with_reducible repeat (first | apply Kd.R_alloc | apply Kd.R_drewN | apply Kd.R_drew)); exact HO154.out))) (below_size (by repeat (first | (with_reducible first | exact HB.out | apply below_alloc | apply pw_below_drewN | apply below_drew1) | exact HB.out)))); have n2_ := Aside0.mk (below_step (by repeat (first | (with_reducible first | exact HB.out | apply below_alloc | apply pw_below_drewN | apply below_drew1) | exact HB.out)) hb); clear HO154; clear HB; have HO154 := n0_; have HO159 := n1_; have HB := n2_; clear n0_ n1_ n2_; (try clear hb); (try clear hb2); (try clear hk); (try clear hi); (try clear ho0)) | ((with_reducible refine gate_dst (N := 20) rfl ?_); (try (refine gate_guard (by rfl) ?_; dsimp only)); refine Kd.R_lit (Kd.int .i64) _ 3 ?hg (N := 20) ?hd (xs := ([2, 1, 2] : List Int)) (inner := [.int .i64 2, .int .i64 1, .int .i64 2]) (ok := fun _ => True) (okp := fun _ => True) ?hr ?hp (fun _ hk => hk) trivial (Below.refl _ _) (Nat.le_refl _) (by simp) ?_; (case hd => rfl); (case hg => rfl); (case hr => first | (go_simp; done) | (go_simp; rfl)); (case hp => exact (Reps.one (show Kd.M (Kd.int .i64) _ _ _ 2 [.int .i64 2] from rfl) (Reps.one (show Kd.M (Kd.int .i64) _ _ _ 1 [.int .i64 1] from rfl) (Reps.one (show Kd.M (Kd.int .i64) _ _ _ 2 [.int .i64 2] from rfl) (Reps.none _ _))))); intro v161 w11 ho12 hb hg_ hnew_; clear hg_ hnew_; (first | rw [← Ny160.out] at ho12 | (simp only [Int.reduceToNat] at ho12; rw [← Ny160.out] at ho12)); have n0_ := Aside0.mk (Kd.R_elder' (by (with_reducible repeat (first | apply Kd.R_alloc | apply Kd.R_drewN | apply Kd.R_drew)); exact HO154.out) (Kd.R_base ho12) hb); have n1_ := Aside0.mk (Kd.R_elder' (by (with_reducible repeat (first | apply Kd.R_alloc | apply Kd.R_drewN | apply Kd.R_drew)); exact HO159.out) (Kd.R_base ho12) hb); have n2_ := Aside0.mk (Kd.R_lower (Kd.R_new' (Kd.R_new' ho12 (Kd.R_lt (by (with_reducible repeat (first | apply Kd.R_alloc | apply Kd.R_drewN | apply Kd.R_drew)); exact HO154.out))) (Kd.R_lt (by (with_reducible repeat (first | apply Kd.R_alloc | apply Kd.R_drewN | apply Kd.R_drew)); exact HO159.out))) (below_size (by repeat (first | (with_reducible first | exact HB.out | apply below_alloc | apply pw_below_drewN | apply below_drew1) | exact HB.out)))); have n3_ := Aside0.mk (below_step (by repeat (first | (with_reducible first | exact HB.out | apply below_alloc | apply pw_below_drewN | apply below_drew1) | exact HB.out)) hb); clear HO154; clear HO159; clear HB; have HO154 := n0_; have HO159 := n1_; have HO162 := n2_; have HB := n3_; clear n0_ n1_ n2_ n3_; clear hb ho12; obtain ⟨Ao13, co13, eo13⟩ := Kd.R_slice HO162.out; subst eo13) | ((with_reducible refine gate_callee (f := 27) rfl ?_); refine goesL_ (some 21) rfl rfl Try.func27 (by kernel_rfl) rfl #[.slice Ao13 y160.length co13] rfl (by (try simp only [List.map_toArray, List.map_cons, List.map_nil]); first | done | rfl | (simp only [List.length_drop, List.length_take]; rfl)) ?_; (with_reducible refine (code_Code.calls k _ _ y160 t163 t164 _ ?side1 ?side2 A2.out).mono ?_); (case side1 => repeat (first | exact (Kd.R_reads' HO162.out).2.2 | (with_reducible refine Kd.C_alloc ?_ _) | (with_reducible refine Kd.C_drewN ?_ _) | (with_reducible refine Kd.C_drew ?_))); (case side2 => exact (Kd.R_reads' HO162.out).2.1); rintro e w14 ⟨v165, rfl, ho0, hb⟩; refine ⟨_, rfl, ?_⟩; have n0_ := Aside0.mk (Kd.R_below (by (with_reducible repeat (first | apply Kd.R_alloc | apply Kd.R_drewN | apply Kd.R_drew)); exact HO154.out) hb); have n1_ := Aside0.mk (Kd.R_below (by (with_reducible repeat (first | apply Kd.R_alloc | apply Kd.R_drewN | apply Kd.R_drew)); exact HO159.out) hb); have n2_ := Aside0.mk (Kd.R_below (by (with_reducible repeat (first | apply Kd.R_alloc | apply Kd.R_drewN | apply Kd.R_drew)); exact HO162.out) hb); have n3_ := Aside0.mk (Kd.R_lower ho0 (below_size (by repeat (first | (with_reducible first | exact HB.out | apply below_alloc | apply pw_below_drewN | apply below_drew1) | exact HB.out)))); have n4_ := Aside0.mk (below_step (by repeat (first | (with_reducible first | exact HB.out | apply below_alloc | apply pw_below_drewN | apply below_drew1) | exact HB.out)) hb); clear HO154; clear HO159; clear HO162; clear HB; have HO154 := n0_; have HO159 := n1_; have HO162 := n2_; have HO166 := n3_; have HB := n4_; clear n0_ n1_ n2_ n3_ n4_; (try clear hb); (try clear hb2); (try clear hk); (try clear hi); (try clear ho0)) | ((with_reducible refine gate_callee (f := 30) rfl ?_); refine goesL_ (some 25) rfl rfl Try.func30 (by kernel_rfl) rfl #[.string (⟨#[49]⟩ : ByteArray), .int .i64 7, .int .i64 5] rfl (by (try simp only [List.map_toArray, List.map_cons, List.map_nil]); first | done | rfl | (simp only [List.length_drop, List.length_take]; rfl)) ?_; (with_reducible refine (code_Card.calls k (⟨#[49]⟩ : ByteArray) 7 5 t167 t168 _ A3.out).mono ?_); rintro e w15 ⟨rfl, hb⟩; refine ⟨_, rfl, ?_⟩; have n0_ := Aside0.mk (Kd.R_below (by (with_reducible repeat (first | apply Kd.R_alloc | apply Kd.R_drewN | apply Kd.R_drew)); exact HO154.out) hb); have n1_ := Aside0.mk (Kd.R_below (by (with_reducible repeat (first | apply Kd.R_alloc | apply Kd.R_drewN | apply Kd.R_drew)); exact HO159.out) hb); have n2_ := Aside0.mk (Kd.R_below (by (with_reducible repeat (first | apply Kd.R_alloc | apply Kd.R_drewN | apply Kd.R_drew)); exact HO162.out) hb); have n3_ := Aside0.mk (Kd.R_below (by (with_reducible repeat (first | apply Kd.R_alloc | apply Kd.R_drewN | apply Kd.R_drew)); exact HO166.out) hb); have n4_ := Aside0.mk (below_step (by repeat (first | (with_reducible first | exact HB.out | apply below_alloc | apply pw_below_drewN | apply below_drew1) | exact HB.out)) hb); clear HO154; clear HO159; clear HO162; clear HO166; clear HB; have HO154 := n0_; have HO159 := n1_; have HO162 := n2_; have HO166 := n3_; have HB := n4_; clear n0_ n1_ n2_ n3_ n4_; (try clear hb); (try clear hb2); (try clear hk); (try clear hi)) | ((with_reducible refine gate_callee (f := 34) rfl ?_); refine goesL_ (some 29) rfl rfl Try.func34 (by kernel_rfl) rfl #[.string (⟨#[49, 49, 49, 48, 49, 49, 48, 48]⟩ : ByteArray), .int .i64 7, .int .i64 5] rfl (by (try simp only [List.map_toArray, List.map_cons, List.map_nil]); first | done | rfl | (simp only [List.length_drop, List.length_take]; rfl)) ?_; (with_reducible refine (code_Read.calls k (⟨#[49, 49, 49, 48, 49, 49, 48, 48]⟩ : ByteArray) 7 5 t169 t170 t171 _ A4.out).mono ?_); rintro e w16 ⟨rfl, hb⟩; refine ⟨_, rfl, ?_⟩; have n0_ := Aside0.mk (Kd.R_below (by (with_reducible repeat (first | apply Kd.R_alloc | apply Kd.R_drewN | apply Kd.R_drew)); exact HO154.out) hb); have n1_ := Aside0.mk (Kd.R_below (by (with_reducible repeat (first | apply Kd.R_alloc | apply Kd.R_drewN | apply Kd.R_drew)); exact HO159.out) hb); have n2_ := Aside0.mk (Kd.R_below (by (with_reducible repeat (first | apply Kd.R_alloc | apply Kd.R_drewN | apply Kd.R_drew)); exact HO162.out) hb); have n3_ := Aside0.mk (Kd.R_below (by (with_reducible repeat (first | apply Kd.R_alloc | apply Kd.R_drewN | apply Kd.R_drew)); exact HO166.out) hb); have n4_ := Aside0.mk (below_step (by repeat (first | (with_reducible first | exact HB.out | apply below_alloc | apply pw_below_drewN | apply below_drew1) | exact HB.out)) hb); clear HO154; clear HO159; clear HO162; clear HO166; clear HB; have HO154 := n0_; have HO159 := n1_; have HO162 := n2_; have HO166 := n3_; have HB := n4_; clear n0_ n1_ n2_ n3_ n4_; (try clear hb); (try clear hb2); (try clear hk); (try clear hi)) | ((with_reducible refine gate_callee (f := 36) rfl ?_); refine goesL_ (some 34) rfl rfl Try.func36 (by kernel_rfl) rfl #[.int .i64 7, .int .i64 5] rfl (by (try simp only [List.map_toArray, List.map_cons, List.map_nil]); first | done | rfl | (simp only [List.length_drop, List.length_take]; rfl)) ?_; (with_reducible refine (code_Free.calls 7 5 t172 t173 _ A5.out).mono ?_); rintro e w17 ⟨rfl, hb⟩; refine ⟨_, rfl, ?_⟩; have n0_ := Aside0.mk (Kd.R_below (by (with_reducible repeat (first | apply Kd.R_alloc | apply Kd.R_drewN | apply Kd.R_drew)); exact HO154.out) hb); have n1_ := Aside0.mk (Kd.R_below (by (with_reducible repeat (first | apply Kd.R_alloc | apply Kd.R_drewN | apply Kd.R_drew)); exact HO159.out) hb); have n2_ := Aside0.mk (Kd.R_below (by (with_reducible repeat (first | apply Kd.R_alloc | apply Kd.R_drewN | apply Kd.R_drew)); exact HO162.out) hb); have n3_ := Aside0.mk (Kd.R_below (by (with_reducible repeat (first | apply Kd.R_alloc | apply Kd.R_drewN | apply Kd.R_drew)); exact HO166.out) hb); have n4_ := Aside0.mk (below_step (by repeat (first | (with_reducible first | exact HB.out | apply below_alloc | apply pw_below_drewN | apply below_drew1) | exact HB.out)) hb); clear HO154; clear HO159; clear HO162; clear HO166; clear HB; have HO154 := n0_; have HO159 := n1_; have HO162 := n2_; have HO166 := n3_; have HB := n4_; clear n0_ n1_ n2_ n3_ n4_; (try clear hb); (try clear hb2); (try clear hk); (try clear hi)))
 (try simp only [Act.put, List.setIfInBounds_toArray, List.set_cons_zero, List.set_cons_succ])
 go_cut [80] (fun v80 wc => ∃ (kq : Nat) (x80_5 : Bool), v80 = .bool x80_5 ∧ Aside0 (turndownlaw06_awake.j0 kq x80_5 = some r) ∧ Aside0 (kq ≤ k) ∧ Aside0 (Below w.heap.size w wc))
 case first =>
  have H := HC6.out
  clear HC6
  by_cases c18 : t157 = 0
  ·
   rw [if_pos c18] at H
   have c18b0 : (t157 == 0) = true := beq_iff_eq.mpr c18
   have c18b1 : (t157 != 0) = false := bne_eq_false_iff_eq.mpr c18
   clear c18
   (first | rw [c18b0] | (simp only [i64_w, i32_w]; rw [c18b0]) | skip)
   by_cases c19 : t156 = 14
   ·
    rw [if_pos c19] at H
    have c19b0 : (t156 == 14) = true := beq_iff_eq.mpr c19
    have c19b1 : (t156 != 14) = false := bne_eq_false_iff_eq.mpr c19
    clear c19
    by_cases c20 : t164 = 0
    ·
     rw [if_pos c20] at H
     have c20b0 : (t164 == 0) = true := beq_iff_eq.mpr c20
     have c20b1 : (t164 != 0) = false := bne_eq_false_iff_eq.mpr c20
     clear c20
     obtain ⟨y174, hy174⟩ : ∃ y_ : List ByteArray, y_ = (([(⟨#[49, 48]⟩ : ByteArray), (⟨#[48]⟩ : ByteArray), (⟨#[49, 49]⟩ : ByteArray)] : List ByteArray)) := ⟨_, rfl⟩
     replace H : ((turndownlaw06_texts.f k t163 y174).bind fun t177 => (if t177 = true then (if t168 = 0 then (if t167.toList = ([49, 49, 49, 48, 49, 49, 48, 48] : List UInt8) then (if t171 = 0 then (if t169.toList = ([49] : List UInt8) then (if t170 = 0 then (if t173 = 0 then (turndownlaw06_awake.j0 k (t172 != 5)) else (turndownlaw06_awake.j0 k true)) else (turndownlaw06_awake.j0 k true)) else (turndownlaw06_awake.j0 k true)) else (turndownlaw06_awake.j0 k true)) else (turndownlaw06_awake.j0 k true)) else (turndownlaw06_awake.j0 k true)) else (turndownlaw06_awake.j0 k true))) = some r := by first | (rw [hy174]; with_reducible exact H) | (have H2_ := (Option.bind_some _ _).symm.trans H; rw [hy174]; with_reducible exact H2_) | (have H2_ := (Option.bind_some _ _).symm.trans H; with_reducible exact H2_) | with_reducible exact H | (rw [hy174]; exact H) | exact H
     have Ny174 := Aside0.mk hy174
     clear hy174
     replace H := Option.bind_eq_some_iff.mp H
     obtain ⟨t177, A210, H⟩ := H
     replace H : (if t177 = true then (if t168 = 0 then (if t167.toList = ([49, 49, 49, 48, 49, 49, 48, 48] : List UInt8) then (if t171 = 0 then (if t169.toList = ([49] : List UInt8) then (if t170 = 0 then (if t173 = 0 then (turndownlaw06_awake.j0 k (t172 != 5)) else (turndownlaw06_awake.j0 k true)) else (turndownlaw06_awake.j0 k true)) else (turndownlaw06_awake.j0 k true)) else (turndownlaw06_awake.j0 k true)) else (turndownlaw06_awake.j0 k true)) else (turndownlaw06_awake.j0 k true)) else (turndownlaw06_awake.j0 k true)) = some r := H
     have A21 := Aside0.mk A210
     clear A210
     by_cases c22 : t177 = true
     ·
      subst c22
      have H1 : (if t168 = 0 then (if t167.toList = ([49, 49, 49, 48, 49, 49, 48, 48] : List UInt8) then (if t171 = 0 then (if t169.toList = ([49] : List UInt8) then (if t170 = 0 then (if t173 = 0 then (turndownlaw06_awake.j0 k (t172 != 5)) else (turndownlaw06_awake.j0 k true)) else (turndownlaw06_awake.j0 k true)) else (turndownlaw06_awake.j0 k true)) else (turndownlaw06_awake.j0 k true)) else (turndownlaw06_awake.j0 k true)) else (turndownlaw06_awake.j0 k true)) = some r := by rw [if_pos rfl] at H; exact H
      clear H
      have H := H1
      clear H1
      by_cases c23 : t168 = 0
      ·
       rw [if_pos c23] at H
       have c23b0 : (t168 == 0) = true := beq_iff_eq.mpr c23
       have c23b1 : (t168 != 0) = false := bne_eq_false_iff_eq.mpr c23
       clear c23
       by_cases c24 : t167.toList = ([49, 49, 49, 48, 49, 49, 48, 48] : List UInt8)
       ·
        rw [if_pos c24] at H
        have c24b0 : (t167.toList == ([49, 49, 49, 48, 49, 49, 48, 48] : List UInt8)) = true := beq_iff_eq.mpr c24
        have c24b1 : (t167.toList != ([49, 49, 49, 48, 49, 49, 48, 48] : List UInt8)) = false := bne_eq_false_iff_eq.mpr c24
        clear c24
        by_cases c25 : t171 = 0
        ·
         rw [if_pos c25] at H
         have c25b0 : (t171 == 0) = true := beq_iff_eq.mpr c25
         have c25b1 : (t171 != 0) = false := bne_eq_false_iff_eq.mpr c25
         clear c25
         by_cases c26 : t169.toList = ([49] : List UInt8)
         ·
          rw [if_pos c26] at H
          have c26b0 : (t169.toList == ([49] : List UInt8)) = true := beq_iff_eq.mpr c26
          have c26b1 : (t169.toList != ([49] : List UInt8)) = false := bne_eq_false_iff_eq.mpr c26
          clear c26
          by_cases c27 : t170 = 0
          ·
           rw [if_pos c27] at H
           have c27b0 : (t170 == 0) = true := beq_iff_eq.mpr c27
           have c27b1 : (t170 != 0) = false := bne_eq_false_iff_eq.mpr c27
           clear c27
           by_cases c28 : t173 = 0
           ·
            rw [if_pos c28] at H
            have c28b0 : (t173 == 0) = true := beq_iff_eq.mpr c28
            have c28b1 : (t173 != 0) = false := bne_eq_false_iff_eq.mpr c28
            clear c28
            have H' := Aside0.mk H
            clear H
            go_wp2_with (first | ((with_reducible refine gate_dst (N := 49) rfl ?_); (try (refine gate_guard (by rfl) ?_; dsimp only)); refine Kd.R_lit Kd.string _ 9 ?hg (N := 49) ?hd (xs := ([(⟨#[49, 48]⟩ : ByteArray), (⟨#[48]⟩ : ByteArray), (⟨#[49, 49]⟩ : ByteArray)] : List ByteArray)) (inner := [.string (⟨#[49, 48]⟩ : ByteArray), .string (⟨#[48]⟩ : ByteArray), .string (⟨#[49, 49]⟩ : ByteArray)]) (ok := fun _ => True) (okp := fun _ => True) ?hr ?hp (fun _ hk => hk) trivial (Below.refl _ _) (Nat.le_refl _) (by simp) ?_; (case hd => rfl); (case hg => rfl); (case hr => first | (go_simp; done) | (go_simp; rfl)); (case hp => exact (Reps.one (show Kd.M Kd.string _ _ _ (⟨#[49, 48]⟩ : ByteArray) [.string (⟨#[49, 48]⟩ : ByteArray)] from rfl) (Reps.one (show Kd.M Kd.string _ _ _ (⟨#[48]⟩ : ByteArray) [.string (⟨#[48]⟩ : ByteArray)] from rfl) (Reps.one (show Kd.M Kd.string _ _ _ (⟨#[49, 49]⟩ : ByteArray) [.string (⟨#[49, 49]⟩ : ByteArray)] from rfl) (Reps.none _ _))))); intro v175 w29 ho30 hb hg_ hnew_; clear hg_ hnew_; (first | rw [← Ny174.out] at ho30 | (simp only [Int.reduceToNat] at ho30; rw [← Ny174.out] at ho30)); have n0_ := Aside0.mk (Kd.R_below (by (with_reducible repeat (first | apply Kd.R_alloc | apply Kd.R_drewN | apply Kd.R_drew)); exact HO154.out) hb); have n1_ := Aside0.mk (Kd.R_below (by (with_reducible repeat (first | apply Kd.R_alloc | apply Kd.R_drewN | apply Kd.R_drew)); exact HO159.out) hb); have n2_ := Aside0.mk (Kd.R_below (by (with_reducible repeat (first | apply Kd.R_alloc | apply Kd.R_drewN | apply Kd.R_drew)); exact HO162.out) hb); have n3_ := Aside0.mk (Kd.R_elder' (by (with_reducible repeat (first | apply Kd.R_alloc | apply Kd.R_drewN | apply Kd.R_drew)); exact HO166.out) (Kd.R_base ho30) hb); have n4_ := Aside0.mk (Kd.R_lower (Kd.R_new' ho30 (Kd.R_lt (by (with_reducible repeat (first | apply Kd.R_alloc | apply Kd.R_drewN | apply Kd.R_drew)); exact HO166.out))) (below_size (by repeat (first | (with_reducible first | exact HB.out | apply below_alloc | apply pw_below_drewN | apply below_drew1) | exact HB.out)))); have n5_ := Aside0.mk (below_step (by repeat (first | (with_reducible first | exact HB.out | apply below_alloc | apply pw_below_drewN | apply below_drew1) | exact HB.out)) hb); clear HO154; clear HO159; clear HO162; clear HO166; clear HB; have HO154 := n0_; have HO159 := n1_; have HO162 := n2_; have HO166 := n3_; have HO176 := n4_; have HB := n5_; clear n0_ n1_ n2_ n3_ n4_ n5_; clear hb ho30; obtain ⟨Ao31, co31, eo31⟩ := Kd.R_slice HO166.out; subst eo31; obtain ⟨Ao32, co32, eo32⟩ := Kd.R_slice HO176.out; subst eo32) | (go_at_call 28; (with_reducible refine (turndownlaw06_texts.calls k _ _ t163 _ _ y174 true _ ?side1 ?side2 ?side3 ?side4 A21.out).mono ?_); (case side1 => repeat (first | exact (Kd.R_reads' HO166.out).2.2 | (with_reducible refine Kd.C_alloc ?_ _) | (with_reducible refine Kd.C_drewN ?_ _) | (with_reducible refine Kd.C_drew ?_))); (case side2 => exact (Kd.R_reads' HO166.out).2.1); (case side3 => repeat (first | exact (Kd.R_reads' HO176.out).2.2 | (with_reducible refine Kd.C_alloc ?_ _) | (with_reducible refine Kd.C_drewN ?_ _) | (with_reducible refine Kd.C_drew ?_))); (case side4 => exact (Kd.R_reads' HO176.out).2.1); rintro e w' ⟨rfl, ⟨nd, rfl⟩⟩))
            go_meet
            case rel => exact ⟨_, ((t172 != 5)), (by first | rfl | (simp; done) | (simp [*]; done)), H', ⟨by first | omega | exact Nat.le_refl _⟩, ⟨by repeat (first | (with_reducible first | exact HB.out | apply below_alloc | apply pw_below_drewN | apply below_drew1) | exact HB.out)⟩⟩
           ·
            rw [if_neg c28] at H
            have c28b0 : (t173 == 0) = false := beq_eq_false_iff_ne.mpr c28
            have c28b1 : (t173 != 0) = true := bne_iff_ne.mpr c28
            have H' := Aside0.mk H
            clear H
            go_wp2_with (first | ((with_reducible refine gate_dst (N := 49) rfl ?_); (try (refine gate_guard (by rfl) ?_; dsimp only)); refine Kd.R_lit Kd.string _ 9 ?hg (N := 49) ?hd (xs := ([(⟨#[49, 48]⟩ : ByteArray), (⟨#[48]⟩ : ByteArray), (⟨#[49, 49]⟩ : ByteArray)] : List ByteArray)) (inner := [.string (⟨#[49, 48]⟩ : ByteArray), .string (⟨#[48]⟩ : ByteArray), .string (⟨#[49, 49]⟩ : ByteArray)]) (ok := fun _ => True) (okp := fun _ => True) ?hr ?hp (fun _ hk => hk) trivial (Below.refl _ _) (Nat.le_refl _) (by simp) ?_; (case hd => rfl); (case hg => rfl); (case hr => first | (go_simp; done) | (go_simp; rfl)); (case hp => exact (Reps.one (show Kd.M Kd.string _ _ _ (⟨#[49, 48]⟩ : ByteArray) [.string (⟨#[49, 48]⟩ : ByteArray)] from rfl) (Reps.one (show Kd.M Kd.string _ _ _ (⟨#[48]⟩ : ByteArray) [.string (⟨#[48]⟩ : ByteArray)] from rfl) (Reps.one (show Kd.M Kd.string _ _ _ (⟨#[49, 49]⟩ : ByteArray) [.string (⟨#[49, 49]⟩ : ByteArray)] from rfl) (Reps.none _ _))))); intro v175 w33 ho34 hb hg_ hnew_; clear hg_ hnew_; (first | rw [← Ny174.out] at ho34 | (simp only [Int.reduceToNat] at ho34; rw [← Ny174.out] at ho34)); have n0_ := Aside0.mk (Kd.R_below (by (with_reducible repeat (first | apply Kd.R_alloc | apply Kd.R_drewN | apply Kd.R_drew)); exact HO154.out) hb); have n1_ := Aside0.mk (Kd.R_below (by (with_reducible repeat (first | apply Kd.R_alloc | apply Kd.R_drewN | apply Kd.R_drew)); exact HO159.out) hb); have n2_ := Aside0.mk (Kd.R_below (by (with_reducible repeat (first | apply Kd.R_alloc | apply Kd.R_drewN | apply Kd.R_drew)); exact HO162.out) hb); have n3_ := Aside0.mk (Kd.R_elder' (by (with_reducible repeat (first | apply Kd.R_alloc | apply Kd.R_drewN | apply Kd.R_drew)); exact HO166.out) (Kd.R_base ho34) hb); have n4_ := Aside0.mk (Kd.R_lower (Kd.R_new' ho34 (Kd.R_lt (by (with_reducible repeat (first | apply Kd.R_alloc | apply Kd.R_drewN | apply Kd.R_drew)); exact HO166.out))) (below_size (by repeat (first | (with_reducible first | exact HB.out | apply below_alloc | apply pw_below_drewN | apply below_drew1) | exact HB.out)))); have n5_ := Aside0.mk (below_step (by repeat (first | (with_reducible first | exact HB.out | apply below_alloc | apply pw_below_drewN | apply below_drew1) | exact HB.out)) hb); clear HO154; clear HO159; clear HO162; clear HO166; clear HB; have HO154 := n0_; have HO159 := n1_; have HO162 := n2_; have HO166 := n3_; have HO176 := n4_; have HB := n5_; clear n0_ n1_ n2_ n3_ n4_ n5_; clear hb ho34; obtain ⟨Ao35, co35, eo35⟩ := Kd.R_slice HO166.out; subst eo35; obtain ⟨Ao36, co36, eo36⟩ := Kd.R_slice HO176.out; subst eo36) | (go_at_call 28; (with_reducible refine (turndownlaw06_texts.calls k _ _ t163 _ _ y174 true _ ?side1 ?side2 ?side3 ?side4 A21.out).mono ?_); (case side1 => repeat (first | exact (Kd.R_reads' HO166.out).2.2 | (with_reducible refine Kd.C_alloc ?_ _) | (with_reducible refine Kd.C_drewN ?_ _) | (with_reducible refine Kd.C_drew ?_))); (case side2 => exact (Kd.R_reads' HO166.out).2.1); (case side3 => repeat (first | exact (Kd.R_reads' HO176.out).2.2 | (with_reducible refine Kd.C_alloc ?_ _) | (with_reducible refine Kd.C_drewN ?_ _) | (with_reducible refine Kd.C_drew ?_))); (case side4 => exact (Kd.R_reads' HO176.out).2.1); rintro e w' ⟨rfl, ⟨nd, rfl⟩⟩))
            go_meet
            case rel => exact ⟨_, (true), (by first | rfl | (simp; done) | (simp [*]; done)), H', ⟨by first | omega | exact Nat.le_refl _⟩, ⟨by repeat (first | (with_reducible first | exact HB.out | apply below_alloc | apply pw_below_drewN | apply below_drew1) | exact HB.out)⟩⟩
          ·
           rw [if_neg c27] at H
           have c27b0 : (t170 == 0) = false := beq_eq_false_iff_ne.mpr c27
           have c27b1 : (t170 != 0) = true := bne_iff_ne.mpr c27
           have H' := Aside0.mk H
           clear H
           go_wp2_with (first | ((with_reducible refine gate_dst (N := 49) rfl ?_); (try (refine gate_guard (by rfl) ?_; dsimp only)); refine Kd.R_lit Kd.string _ 9 ?hg (N := 49) ?hd (xs := ([(⟨#[49, 48]⟩ : ByteArray), (⟨#[48]⟩ : ByteArray), (⟨#[49, 49]⟩ : ByteArray)] : List ByteArray)) (inner := [.string (⟨#[49, 48]⟩ : ByteArray), .string (⟨#[48]⟩ : ByteArray), .string (⟨#[49, 49]⟩ : ByteArray)]) (ok := fun _ => True) (okp := fun _ => True) ?hr ?hp (fun _ hk => hk) trivial (Below.refl _ _) (Nat.le_refl _) (by simp) ?_; (case hd => rfl); (case hg => rfl); (case hr => first | (go_simp; done) | (go_simp; rfl)); (case hp => exact (Reps.one (show Kd.M Kd.string _ _ _ (⟨#[49, 48]⟩ : ByteArray) [.string (⟨#[49, 48]⟩ : ByteArray)] from rfl) (Reps.one (show Kd.M Kd.string _ _ _ (⟨#[48]⟩ : ByteArray) [.string (⟨#[48]⟩ : ByteArray)] from rfl) (Reps.one (show Kd.M Kd.string _ _ _ (⟨#[49, 49]⟩ : ByteArray) [.string (⟨#[49, 49]⟩ : ByteArray)] from rfl) (Reps.none _ _))))); intro v175 w37 ho38 hb hg_ hnew_; clear hg_ hnew_; (first | rw [← Ny174.out] at ho38 | (simp only [Int.reduceToNat] at ho38; rw [← Ny174.out] at ho38)); have n0_ := Aside0.mk (Kd.R_below (by (with_reducible repeat (first | apply Kd.R_alloc | apply Kd.R_drewN | apply Kd.R_drew)); exact HO154.out) hb); have n1_ := Aside0.mk (Kd.R_below (by (with_reducible repeat (first | apply Kd.R_alloc | apply Kd.R_drewN | apply Kd.R_drew)); exact HO159.out) hb); have n2_ := Aside0.mk (Kd.R_below (by (with_reducible repeat (first | apply Kd.R_alloc | apply Kd.R_drewN | apply Kd.R_drew)); exact HO162.out) hb); have n3_ := Aside0.mk (Kd.R_elder' (by (with_reducible repeat (first | apply Kd.R_alloc | apply Kd.R_drewN | apply Kd.R_drew)); exact HO166.out) (Kd.R_base ho38) hb); have n4_ := Aside0.mk (Kd.R_lower (Kd.R_new' ho38 (Kd.R_lt (by (with_reducible repeat (first | apply Kd.R_alloc | apply Kd.R_drewN | apply Kd.R_drew)); exact HO166.out))) (below_size (by repeat (first | (with_reducible first | exact HB.out | apply below_alloc | apply pw_below_drewN | apply below_drew1) | exact HB.out)))); have n5_ := Aside0.mk (below_step (by repeat (first | (with_reducible first | exact HB.out | apply below_alloc | apply pw_below_drewN | apply below_drew1) | exact HB.out)) hb); clear HO154; clear HO159; clear HO162; clear HO166; clear HB; have HO154 := n0_; have HO159 := n1_; have HO162 := n2_; have HO166 := n3_; have HO176 := n4_; have HB := n5_; clear n0_ n1_ n2_ n3_ n4_ n5_; clear hb ho38; obtain ⟨Ao39, co39, eo39⟩ := Kd.R_slice HO166.out; subst eo39; obtain ⟨Ao40, co40, eo40⟩ := Kd.R_slice HO176.out; subst eo40) | (go_at_call 28; (with_reducible refine (turndownlaw06_texts.calls k _ _ t163 _ _ y174 true _ ?side1 ?side2 ?side3 ?side4 A21.out).mono ?_); (case side1 => repeat (first | exact (Kd.R_reads' HO166.out).2.2 | (with_reducible refine Kd.C_alloc ?_ _) | (with_reducible refine Kd.C_drewN ?_ _) | (with_reducible refine Kd.C_drew ?_))); (case side2 => exact (Kd.R_reads' HO166.out).2.1); (case side3 => repeat (first | exact (Kd.R_reads' HO176.out).2.2 | (with_reducible refine Kd.C_alloc ?_ _) | (with_reducible refine Kd.C_drewN ?_ _) | (with_reducible refine Kd.C_drew ?_))); (case side4 => exact (Kd.R_reads' HO176.out).2.1); rintro e w' ⟨rfl, ⟨nd, rfl⟩⟩))
           go_meet
           case rel => exact ⟨_, (true), (by first | rfl | (simp; done) | (simp [*]; done)), H', ⟨by first | omega | exact Nat.le_refl _⟩, ⟨by repeat (first | (with_reducible first | exact HB.out | apply below_alloc | apply pw_below_drewN | apply below_drew1) | exact HB.out)⟩⟩
         ·
          rw [if_neg c26] at H
          have c26b0 : (t169.toList == ([49] : List UInt8)) = false := beq_eq_false_iff_ne.mpr c26
          have c26b1 : (t169.toList != ([49] : List UInt8)) = true := bne_iff_ne.mpr c26
          have H' := Aside0.mk H
          clear H
          go_wp2_with (first | ((with_reducible refine gate_dst (N := 49) rfl ?_); (try (refine gate_guard (by rfl) ?_; dsimp only)); refine Kd.R_lit Kd.string _ 9 ?hg (N := 49) ?hd (xs := ([(⟨#[49, 48]⟩ : ByteArray), (⟨#[48]⟩ : ByteArray), (⟨#[49, 49]⟩ : ByteArray)] : List ByteArray)) (inner := [.string (⟨#[49, 48]⟩ : ByteArray), .string (⟨#[48]⟩ : ByteArray), .string (⟨#[49, 49]⟩ : ByteArray)]) (ok := fun _ => True) (okp := fun _ => True) ?hr ?hp (fun _ hk => hk) trivial (Below.refl _ _) (Nat.le_refl _) (by simp) ?_; (case hd => rfl); (case hg => rfl); (case hr => first | (go_simp; done) | (go_simp; rfl)); (case hp => exact (Reps.one (show Kd.M Kd.string _ _ _ (⟨#[49, 48]⟩ : ByteArray) [.string (⟨#[49, 48]⟩ : ByteArray)] from rfl) (Reps.one (show Kd.M Kd.string _ _ _ (⟨#[48]⟩ : ByteArray) [.string (⟨#[48]⟩ : ByteArray)] from rfl) (Reps.one (show Kd.M Kd.string _ _ _ (⟨#[49, 49]⟩ : ByteArray) [.string (⟨#[49, 49]⟩ : ByteArray)] from rfl) (Reps.none _ _))))); intro v175 w41 ho42 hb hg_ hnew_; clear hg_ hnew_; (first | rw [← Ny174.out] at ho42 | (simp only [Int.reduceToNat] at ho42; rw [← Ny174.out] at ho42)); have n0_ := Aside0.mk (Kd.R_below (by (with_reducible repeat (first | apply Kd.R_alloc | apply Kd.R_drewN | apply Kd.R_drew)); exact HO154.out) hb); have n1_ := Aside0.mk (Kd.R_below (by (with_reducible repeat (first | apply Kd.R_alloc | apply Kd.R_drewN | apply Kd.R_drew)); exact HO159.out) hb); have n2_ := Aside0.mk (Kd.R_below (by (with_reducible repeat (first | apply Kd.R_alloc | apply Kd.R_drewN | apply Kd.R_drew)); exact HO162.out) hb); have n3_ := Aside0.mk (Kd.R_elder' (by (with_reducible repeat (first | apply Kd.R_alloc | apply Kd.R_drewN | apply Kd.R_drew)); exact HO166.out) (Kd.R_base ho42) hb); have n4_ := Aside0.mk (Kd.R_lower (Kd.R_new' ho42 (Kd.R_lt (by (with_reducible repeat (first | apply Kd.R_alloc | apply Kd.R_drewN | apply Kd.R_drew)); exact HO166.out))) (below_size (by repeat (first | (with_reducible first | exact HB.out | apply below_alloc | apply pw_below_drewN | apply below_drew1) | exact HB.out)))); have n5_ := Aside0.mk (below_step (by repeat (first | (with_reducible first | exact HB.out | apply below_alloc | apply pw_below_drewN | apply below_drew1) | exact HB.out)) hb); clear HO154; clear HO159; clear HO162; clear HO166; clear HB; have HO154 := n0_; have HO159 := n1_; have HO162 := n2_; have HO166 := n3_; have HO176 := n4_; have HB := n5_; clear n0_ n1_ n2_ n3_ n4_ n5_; clear hb ho42; obtain ⟨Ao43, co43, eo43⟩ := Kd.R_slice HO166.out; subst eo43; obtain ⟨Ao44, co44, eo44⟩ := Kd.R_slice HO176.out; subst eo44) | (go_at_call 28; (with_reducible refine (turndownlaw06_texts.calls k _ _ t163 _ _ y174 true _ ?side1 ?side2 ?side3 ?side4 A21.out).mono ?_); (case side1 => repeat (first | exact (Kd.R_reads' HO166.out).2.2 | (with_reducible refine Kd.C_alloc ?_ _) | (with_reducible refine Kd.C_drewN ?_ _) | (with_reducible refine Kd.C_drew ?_))); (case side2 => exact (Kd.R_reads' HO166.out).2.1); (case side3 => repeat (first | exact (Kd.R_reads' HO176.out).2.2 | (with_reducible refine Kd.C_alloc ?_ _) | (with_reducible refine Kd.C_drewN ?_ _) | (with_reducible refine Kd.C_drew ?_))); (case side4 => exact (Kd.R_reads' HO176.out).2.1); rintro e w' ⟨rfl, ⟨nd, rfl⟩⟩))
          go_meet
          case rel => exact ⟨_, (true), (by first | rfl | (simp; done) | (simp [*]; done)), H', ⟨by first | omega | exact Nat.le_refl _⟩, ⟨by repeat (first | (with_reducible first | exact HB.out | apply below_alloc | apply pw_below_drewN | apply below_drew1) | exact HB.out)⟩⟩
        ·
         rw [if_neg c25] at H
         have c25b0 : (t171 == 0) = false := beq_eq_false_iff_ne.mpr c25
         have c25b1 : (t171 != 0) = true := bne_iff_ne.mpr c25
         have H' := Aside0.mk H
         clear H
         go_wp2_with (first | ((with_reducible refine gate_dst (N := 49) rfl ?_); (try (refine gate_guard (by rfl) ?_; dsimp only)); refine Kd.R_lit Kd.string _ 9 ?hg (N := 49) ?hd (xs := ([(⟨#[49, 48]⟩ : ByteArray), (⟨#[48]⟩ : ByteArray), (⟨#[49, 49]⟩ : ByteArray)] : List ByteArray)) (inner := [.string (⟨#[49, 48]⟩ : ByteArray), .string (⟨#[48]⟩ : ByteArray), .string (⟨#[49, 49]⟩ : ByteArray)]) (ok := fun _ => True) (okp := fun _ => True) ?hr ?hp (fun _ hk => hk) trivial (Below.refl _ _) (Nat.le_refl _) (by simp) ?_; (case hd => rfl); (case hg => rfl); (case hr => first | (go_simp; done) | (go_simp; rfl)); (case hp => exact (Reps.one (show Kd.M Kd.string _ _ _ (⟨#[49, 48]⟩ : ByteArray) [.string (⟨#[49, 48]⟩ : ByteArray)] from rfl) (Reps.one (show Kd.M Kd.string _ _ _ (⟨#[48]⟩ : ByteArray) [.string (⟨#[48]⟩ : ByteArray)] from rfl) (Reps.one (show Kd.M Kd.string _ _ _ (⟨#[49, 49]⟩ : ByteArray) [.string (⟨#[49, 49]⟩ : ByteArray)] from rfl) (Reps.none _ _))))); intro v175 w45 ho46 hb hg_ hnew_; clear hg_ hnew_; (first | rw [← Ny174.out] at ho46 | (simp only [Int.reduceToNat] at ho46; rw [← Ny174.out] at ho46)); have n0_ := Aside0.mk (Kd.R_below (by (with_reducible repeat (first | apply Kd.R_alloc | apply Kd.R_drewN | apply Kd.R_drew)); exact HO154.out) hb); have n1_ := Aside0.mk (Kd.R_below (by (with_reducible repeat (first | apply Kd.R_alloc | apply Kd.R_drewN | apply Kd.R_drew)); exact HO159.out) hb); have n2_ := Aside0.mk (Kd.R_below (by (with_reducible repeat (first | apply Kd.R_alloc | apply Kd.R_drewN | apply Kd.R_drew)); exact HO162.out) hb); have n3_ := Aside0.mk (Kd.R_elder' (by (with_reducible repeat (first | apply Kd.R_alloc | apply Kd.R_drewN | apply Kd.R_drew)); exact HO166.out) (Kd.R_base ho46) hb); have n4_ := Aside0.mk (Kd.R_lower (Kd.R_new' ho46 (Kd.R_lt (by (with_reducible repeat (first | apply Kd.R_alloc | apply Kd.R_drewN | apply Kd.R_drew)); exact HO166.out))) (below_size (by repeat (first | (with_reducible first | exact HB.out | apply below_alloc | apply pw_below_drewN | apply below_drew1) | exact HB.out)))); have n5_ := Aside0.mk (below_step (by repeat (first | (with_reducible first | exact HB.out | apply below_alloc | apply pw_below_drewN | apply below_drew1) | exact HB.out)) hb); clear HO154; clear HO159; clear HO162; clear HO166; clear HB; have HO154 := n0_; have HO159 := n1_; have HO162 := n2_; have HO166 := n3_; have HO176 := n4_; have HB := n5_; clear n0_ n1_ n2_ n3_ n4_ n5_; clear hb ho46; obtain ⟨Ao47, co47, eo47⟩ := Kd.R_slice HO166.out; subst eo47; obtain ⟨Ao48, co48, eo48⟩ := Kd.R_slice HO176.out; subst eo48) | (go_at_call 28; (with_reducible refine (turndownlaw06_texts.calls k _ _ t163 _ _ y174 true _ ?side1 ?side2 ?side3 ?side4 A21.out).mono ?_); (case side1 => repeat (first | exact (Kd.R_reads' HO166.out).2.2 | (with_reducible refine Kd.C_alloc ?_ _) | (with_reducible refine Kd.C_drewN ?_ _) | (with_reducible refine Kd.C_drew ?_))); (case side2 => exact (Kd.R_reads' HO166.out).2.1); (case side3 => repeat (first | exact (Kd.R_reads' HO176.out).2.2 | (with_reducible refine Kd.C_alloc ?_ _) | (with_reducible refine Kd.C_drewN ?_ _) | (with_reducible refine Kd.C_drew ?_))); (case side4 => exact (Kd.R_reads' HO176.out).2.1); rintro e w' ⟨rfl, ⟨nd, rfl⟩⟩))
         go_meet
         case rel => exact ⟨_, (true), (by first | rfl | (simp; done) | (simp [*]; done)), H', ⟨by first | omega | exact Nat.le_refl _⟩, ⟨by repeat (first | (with_reducible first | exact HB.out | apply below_alloc | apply pw_below_drewN | apply below_drew1) | exact HB.out)⟩⟩
       ·
        rw [if_neg c24] at H
        have c24b0 : (t167.toList == ([49, 49, 49, 48, 49, 49, 48, 48] : List UInt8)) = false := beq_eq_false_iff_ne.mpr c24
        have c24b1 : (t167.toList != ([49, 49, 49, 48, 49, 49, 48, 48] : List UInt8)) = true := bne_iff_ne.mpr c24
        have H' := Aside0.mk H
        clear H
        go_wp2_with (first | ((with_reducible refine gate_dst (N := 49) rfl ?_); (try (refine gate_guard (by rfl) ?_; dsimp only)); refine Kd.R_lit Kd.string _ 9 ?hg (N := 49) ?hd (xs := ([(⟨#[49, 48]⟩ : ByteArray), (⟨#[48]⟩ : ByteArray), (⟨#[49, 49]⟩ : ByteArray)] : List ByteArray)) (inner := [.string (⟨#[49, 48]⟩ : ByteArray), .string (⟨#[48]⟩ : ByteArray), .string (⟨#[49, 49]⟩ : ByteArray)]) (ok := fun _ => True) (okp := fun _ => True) ?hr ?hp (fun _ hk => hk) trivial (Below.refl _ _) (Nat.le_refl _) (by simp) ?_; (case hd => rfl); (case hg => rfl); (case hr => first | (go_simp; done) | (go_simp; rfl)); (case hp => exact (Reps.one (show Kd.M Kd.string _ _ _ (⟨#[49, 48]⟩ : ByteArray) [.string (⟨#[49, 48]⟩ : ByteArray)] from rfl) (Reps.one (show Kd.M Kd.string _ _ _ (⟨#[48]⟩ : ByteArray) [.string (⟨#[48]⟩ : ByteArray)] from rfl) (Reps.one (show Kd.M Kd.string _ _ _ (⟨#[49, 49]⟩ : ByteArray) [.string (⟨#[49, 49]⟩ : ByteArray)] from rfl) (Reps.none _ _))))); intro v175 w49 ho50 hb hg_ hnew_; clear hg_ hnew_; (first | rw [← Ny174.out] at ho50 | (simp only [Int.reduceToNat] at ho50; rw [← Ny174.out] at ho50)); have n0_ := Aside0.mk (Kd.R_below (by (with_reducible repeat (first | apply Kd.R_alloc | apply Kd.R_drewN | apply Kd.R_drew)); exact HO154.out) hb); have n1_ := Aside0.mk (Kd.R_below (by (with_reducible repeat (first | apply Kd.R_alloc | apply Kd.R_drewN | apply Kd.R_drew)); exact HO159.out) hb); have n2_ := Aside0.mk (Kd.R_below (by (with_reducible repeat (first | apply Kd.R_alloc | apply Kd.R_drewN | apply Kd.R_drew)); exact HO162.out) hb); have n3_ := Aside0.mk (Kd.R_elder' (by (with_reducible repeat (first | apply Kd.R_alloc | apply Kd.R_drewN | apply Kd.R_drew)); exact HO166.out) (Kd.R_base ho50) hb); have n4_ := Aside0.mk (Kd.R_lower (Kd.R_new' ho50 (Kd.R_lt (by (with_reducible repeat (first | apply Kd.R_alloc | apply Kd.R_drewN | apply Kd.R_drew)); exact HO166.out))) (below_size (by repeat (first | (with_reducible first | exact HB.out | apply below_alloc | apply pw_below_drewN | apply below_drew1) | exact HB.out)))); have n5_ := Aside0.mk (below_step (by repeat (first | (with_reducible first | exact HB.out | apply below_alloc | apply pw_below_drewN | apply below_drew1) | exact HB.out)) hb); clear HO154; clear HO159; clear HO162; clear HO166; clear HB; have HO154 := n0_; have HO159 := n1_; have HO162 := n2_; have HO166 := n3_; have HO176 := n4_; have HB := n5_; clear n0_ n1_ n2_ n3_ n4_ n5_; clear hb ho50; obtain ⟨Ao51, co51, eo51⟩ := Kd.R_slice HO166.out; subst eo51; obtain ⟨Ao52, co52, eo52⟩ := Kd.R_slice HO176.out; subst eo52) | (go_at_call 28; (with_reducible refine (turndownlaw06_texts.calls k _ _ t163 _ _ y174 true _ ?side1 ?side2 ?side3 ?side4 A21.out).mono ?_); (case side1 => repeat (first | exact (Kd.R_reads' HO166.out).2.2 | (with_reducible refine Kd.C_alloc ?_ _) | (with_reducible refine Kd.C_drewN ?_ _) | (with_reducible refine Kd.C_drew ?_))); (case side2 => exact (Kd.R_reads' HO166.out).2.1); (case side3 => repeat (first | exact (Kd.R_reads' HO176.out).2.2 | (with_reducible refine Kd.C_alloc ?_ _) | (with_reducible refine Kd.C_drewN ?_ _) | (with_reducible refine Kd.C_drew ?_))); (case side4 => exact (Kd.R_reads' HO176.out).2.1); rintro e w' ⟨rfl, ⟨nd, rfl⟩⟩))
        go_meet
        case rel => exact ⟨_, (true), (by first | rfl | (simp; done) | (simp [*]; done)), H', ⟨by first | omega | exact Nat.le_refl _⟩, ⟨by repeat (first | (with_reducible first | exact HB.out | apply below_alloc | apply pw_below_drewN | apply below_drew1) | exact HB.out)⟩⟩
      ·
       rw [if_neg c23] at H
       have c23b0 : (t168 == 0) = false := beq_eq_false_iff_ne.mpr c23
       have c23b1 : (t168 != 0) = true := bne_iff_ne.mpr c23
       have H' := Aside0.mk H
       clear H
       go_wp2_with (first | ((with_reducible refine gate_dst (N := 49) rfl ?_); (try (refine gate_guard (by rfl) ?_; dsimp only)); refine Kd.R_lit Kd.string _ 9 ?hg (N := 49) ?hd (xs := ([(⟨#[49, 48]⟩ : ByteArray), (⟨#[48]⟩ : ByteArray), (⟨#[49, 49]⟩ : ByteArray)] : List ByteArray)) (inner := [.string (⟨#[49, 48]⟩ : ByteArray), .string (⟨#[48]⟩ : ByteArray), .string (⟨#[49, 49]⟩ : ByteArray)]) (ok := fun _ => True) (okp := fun _ => True) ?hr ?hp (fun _ hk => hk) trivial (Below.refl _ _) (Nat.le_refl _) (by simp) ?_; (case hd => rfl); (case hg => rfl); (case hr => first | (go_simp; done) | (go_simp; rfl)); (case hp => exact (Reps.one (show Kd.M Kd.string _ _ _ (⟨#[49, 48]⟩ : ByteArray) [.string (⟨#[49, 48]⟩ : ByteArray)] from rfl) (Reps.one (show Kd.M Kd.string _ _ _ (⟨#[48]⟩ : ByteArray) [.string (⟨#[48]⟩ : ByteArray)] from rfl) (Reps.one (show Kd.M Kd.string _ _ _ (⟨#[49, 49]⟩ : ByteArray) [.string (⟨#[49, 49]⟩ : ByteArray)] from rfl) (Reps.none _ _))))); intro v175 w53 ho54 hb hg_ hnew_; clear hg_ hnew_; (first | rw [← Ny174.out] at ho54 | (simp only [Int.reduceToNat] at ho54; rw [← Ny174.out] at ho54)); have n0_ := Aside0.mk (Kd.R_below (by (with_reducible repeat (first | apply Kd.R_alloc | apply Kd.R_drewN | apply Kd.R_drew)); exact HO154.out) hb); have n1_ := Aside0.mk (Kd.R_below (by (with_reducible repeat (first | apply Kd.R_alloc | apply Kd.R_drewN | apply Kd.R_drew)); exact HO159.out) hb); have n2_ := Aside0.mk (Kd.R_below (by (with_reducible repeat (first | apply Kd.R_alloc | apply Kd.R_drewN | apply Kd.R_drew)); exact HO162.out) hb); have n3_ := Aside0.mk (Kd.R_elder' (by (with_reducible repeat (first | apply Kd.R_alloc | apply Kd.R_drewN | apply Kd.R_drew)); exact HO166.out) (Kd.R_base ho54) hb); have n4_ := Aside0.mk (Kd.R_lower (Kd.R_new' ho54 (Kd.R_lt (by (with_reducible repeat (first | apply Kd.R_alloc | apply Kd.R_drewN | apply Kd.R_drew)); exact HO166.out))) (below_size (by repeat (first | (with_reducible first | exact HB.out | apply below_alloc | apply pw_below_drewN | apply below_drew1) | exact HB.out)))); have n5_ := Aside0.mk (below_step (by repeat (first | (with_reducible first | exact HB.out | apply below_alloc | apply pw_below_drewN | apply below_drew1) | exact HB.out)) hb); clear HO154; clear HO159; clear HO162; clear HO166; clear HB; have HO154 := n0_; have HO159 := n1_; have HO162 := n2_; have HO166 := n3_; have HO176 := n4_; have HB := n5_; clear n0_ n1_ n2_ n3_ n4_ n5_; clear hb ho54; obtain ⟨Ao55, co55, eo55⟩ := Kd.R_slice HO166.out; subst eo55; obtain ⟨Ao56, co56, eo56⟩ := Kd.R_slice HO176.out; subst eo56) | (go_at_call 28; (with_reducible refine (turndownlaw06_texts.calls k _ _ t163 _ _ y174 true _ ?side1 ?side2 ?side3 ?side4 A21.out).mono ?_); (case side1 => repeat (first | exact (Kd.R_reads' HO166.out).2.2 | (with_reducible refine Kd.C_alloc ?_ _) | (with_reducible refine Kd.C_drewN ?_ _) | (with_reducible refine Kd.C_drew ?_))); (case side2 => exact (Kd.R_reads' HO166.out).2.1); (case side3 => repeat (first | exact (Kd.R_reads' HO176.out).2.2 | (with_reducible refine Kd.C_alloc ?_ _) | (with_reducible refine Kd.C_drewN ?_ _) | (with_reducible refine Kd.C_drew ?_))); (case side4 => exact (Kd.R_reads' HO176.out).2.1); rintro e w' ⟨rfl, ⟨nd, rfl⟩⟩))
       go_meet
       case rel => exact ⟨_, (true), (by first | rfl | (simp; done) | (simp [*]; done)), H', ⟨by first | omega | exact Nat.le_refl _⟩, ⟨by repeat (first | (with_reducible first | exact HB.out | apply below_alloc | apply pw_below_drewN | apply below_drew1) | exact HB.out)⟩⟩
     ·
      replace c22 := Bool.eq_false_iff.mpr c22
      subst c22
      have H1 : (turndownlaw06_awake.j0 k true) = some r := by rw [if_neg (show ¬ (false = true) by decide)] at H; exact H
      clear H
      have H := H1
      clear H1
      have H' := Aside0.mk H
      clear H
      go_wp2_with (first | ((with_reducible refine gate_dst (N := 49) rfl ?_); (try (refine gate_guard (by rfl) ?_; dsimp only)); refine Kd.R_lit Kd.string _ 9 ?hg (N := 49) ?hd (xs := ([(⟨#[49, 48]⟩ : ByteArray), (⟨#[48]⟩ : ByteArray), (⟨#[49, 49]⟩ : ByteArray)] : List ByteArray)) (inner := [.string (⟨#[49, 48]⟩ : ByteArray), .string (⟨#[48]⟩ : ByteArray), .string (⟨#[49, 49]⟩ : ByteArray)]) (ok := fun _ => True) (okp := fun _ => True) ?hr ?hp (fun _ hk => hk) trivial (Below.refl _ _) (Nat.le_refl _) (by simp) ?_; (case hd => rfl); (case hg => rfl); (case hr => first | (go_simp; done) | (go_simp; rfl)); (case hp => exact (Reps.one (show Kd.M Kd.string _ _ _ (⟨#[49, 48]⟩ : ByteArray) [.string (⟨#[49, 48]⟩ : ByteArray)] from rfl) (Reps.one (show Kd.M Kd.string _ _ _ (⟨#[48]⟩ : ByteArray) [.string (⟨#[48]⟩ : ByteArray)] from rfl) (Reps.one (show Kd.M Kd.string _ _ _ (⟨#[49, 49]⟩ : ByteArray) [.string (⟨#[49, 49]⟩ : ByteArray)] from rfl) (Reps.none _ _))))); intro v175 w57 ho58 hb hg_ hnew_; clear hg_ hnew_; (first | rw [← Ny174.out] at ho58 | (simp only [Int.reduceToNat] at ho58; rw [← Ny174.out] at ho58)); have n0_ := Aside0.mk (Kd.R_below (by (with_reducible repeat (first | apply Kd.R_alloc | apply Kd.R_drewN | apply Kd.R_drew)); exact HO154.out) hb); have n1_ := Aside0.mk (Kd.R_below (by (with_reducible repeat (first | apply Kd.R_alloc | apply Kd.R_drewN | apply Kd.R_drew)); exact HO159.out) hb); have n2_ := Aside0.mk (Kd.R_below (by (with_reducible repeat (first | apply Kd.R_alloc | apply Kd.R_drewN | apply Kd.R_drew)); exact HO162.out) hb); have n3_ := Aside0.mk (Kd.R_elder' (by (with_reducible repeat (first | apply Kd.R_alloc | apply Kd.R_drewN | apply Kd.R_drew)); exact HO166.out) (Kd.R_base ho58) hb); have n4_ := Aside0.mk (Kd.R_lower (Kd.R_new' ho58 (Kd.R_lt (by (with_reducible repeat (first | apply Kd.R_alloc | apply Kd.R_drewN | apply Kd.R_drew)); exact HO166.out))) (below_size (by repeat (first | (with_reducible first | exact HB.out | apply below_alloc | apply pw_below_drewN | apply below_drew1) | exact HB.out)))); have n5_ := Aside0.mk (below_step (by repeat (first | (with_reducible first | exact HB.out | apply below_alloc | apply pw_below_drewN | apply below_drew1) | exact HB.out)) hb); clear HO154; clear HO159; clear HO162; clear HO166; clear HB; have HO154 := n0_; have HO159 := n1_; have HO162 := n2_; have HO166 := n3_; have HO176 := n4_; have HB := n5_; clear n0_ n1_ n2_ n3_ n4_ n5_; clear hb ho58; obtain ⟨Ao59, co59, eo59⟩ := Kd.R_slice HO166.out; subst eo59; obtain ⟨Ao60, co60, eo60⟩ := Kd.R_slice HO176.out; subst eo60) | (go_at_call 28; (with_reducible refine (turndownlaw06_texts.calls k _ _ t163 _ _ y174 false _ ?side1 ?side2 ?side3 ?side4 A21.out).mono ?_); (case side1 => repeat (first | exact (Kd.R_reads' HO166.out).2.2 | (with_reducible refine Kd.C_alloc ?_ _) | (with_reducible refine Kd.C_drewN ?_ _) | (with_reducible refine Kd.C_drew ?_))); (case side2 => exact (Kd.R_reads' HO166.out).2.1); (case side3 => repeat (first | exact (Kd.R_reads' HO176.out).2.2 | (with_reducible refine Kd.C_alloc ?_ _) | (with_reducible refine Kd.C_drewN ?_ _) | (with_reducible refine Kd.C_drew ?_))); (case side4 => exact (Kd.R_reads' HO176.out).2.1); rintro e w' ⟨rfl, ⟨nd, rfl⟩⟩))
      go_meet
      case rel => exact ⟨_, (true), (by first | rfl | (simp; done) | (simp [*]; done)), H', ⟨by first | omega | exact Nat.le_refl _⟩, ⟨by repeat (first | (with_reducible first | exact HB.out | apply below_alloc | apply pw_below_drewN | apply below_drew1) | exact HB.out)⟩⟩
    ·
     rw [if_neg c20] at H
     have c20b0 : (t164 == 0) = false := beq_eq_false_iff_ne.mpr c20
     have c20b1 : (t164 != 0) = true := bne_iff_ne.mpr c20
     have H' := Aside0.mk H
     clear H
     go_wp2
     go_meet
     case rel => exact ⟨_, (true), (by first | rfl | (simp; done) | (simp [*]; done)), H', ⟨by first | omega | exact Nat.le_refl _⟩, ⟨by repeat (first | (with_reducible first | exact HB.out | apply below_alloc | apply pw_below_drewN | apply below_drew1) | exact HB.out)⟩⟩
   ·
    rw [if_neg c19] at H
    have c19b0 : (t156 == 14) = false := beq_eq_false_iff_ne.mpr c19
    have c19b1 : (t156 != 14) = true := bne_iff_ne.mpr c19
    have H' := Aside0.mk H
    clear H
    go_wp2
    go_meet
    case rel => exact ⟨_, (true), (by first | rfl | (simp; done) | (simp [*]; done)), H', ⟨by first | omega | exact Nat.le_refl _⟩, ⟨by repeat (first | (with_reducible first | exact HB.out | apply below_alloc | apply pw_below_drewN | apply below_drew1) | exact HB.out)⟩⟩
  ·
   rw [if_neg c18] at H
   have c18b0 : (t157 == 0) = false := beq_eq_false_iff_ne.mpr c18
   have c18b1 : (t157 != 0) = true := bne_iff_ne.mpr c18
   (first | rw [c18b0] | (simp only [i64_w, i32_w]; rw [c18b0]) | skip)
   have H' := Aside0.mk H
   clear H
   go_wp2
   go_meet
   case rel => exact ⟨_, (true), (by first | rfl | (simp; done) | (simp [*]; done)), H', ⟨by first | omega | exact Nat.le_refl _⟩, ⟨by repeat (first | (with_reducible first | exact HB.out | apply below_alloc | apply pw_below_drewN | apply below_drew1) | exact HB.out)⟩⟩
 case rest =>
  clear HC6
  try clear c1
  try clear c2
  try clear p2
  try clear c3
  try clear c18
  try clear c18b0
  try clear c18b1
  try clear c19
  try clear c19b0
  try clear c19b1
  try clear c20
  try clear c20b0
  try clear c20b1
  try clear c22
  try clear c23
  try clear c23b0
  try clear c23b1
  try clear c24
  try clear c24b0
  try clear c24b1
  try clear c25
  try clear c25b0
  try clear c25b1
  try clear c26
  try clear c26b0
  try clear c26b1
  try clear c27
  try clear c27b0
  try clear c27b1
  try clear c28
  try clear c28b0
  try clear c28b1
  try clear c30
  try clear c34
  try clear c36
  obtain ⟨kq, x80_5, rfl, HA, HJ5, HB⟩ := hcut
  cases kq with
  | zero => exact absurd HA.out (by simp [turndownlaw06_awake.j0])
  | succ kj5 =>
   have H := HA.out
   clear HA
   simp only [turndownlaw06_awake.j0] at H
   by_cases c61 : x80_5 = true
   ·
    subst c61
    have H1 : (some false) = some r := by rw [if_pos rfl] at H; exact H
    clear H
    have H := H1
    clear H1
    obtain rfl := Option.some.inj H
    go_wp2
    go_ret
    exact ⟨by first | rfl | (simp [errW_none, errW_some] <;> rfl) | (simp [*, errW_none, errW_some] <;> rfl), by repeat (first | (with_reducible first | exact HB.out | apply below_alloc | apply pw_below_drewN | apply below_drew1) | exact HB.out)⟩
   ·
    replace c61 := Bool.eq_false_iff.mpr c61
    subst c61
    have H1 : (some true) = some r := by rw [if_neg (show ¬ (false = true) by decide)] at H; exact H
    clear H
    have H := H1
    clear H1
    obtain rfl := Option.some.inj H
    go_wp2
    go_ret
    exact ⟨by first | rfl | (simp [errW_none, errW_some] <;> rfl) | (simp [*, errW_none, errW_some] <;> rfl), by repeat (first | (with_reducible first | exact HB.out | apply below_alloc | apply pw_below_drewN | apply below_drew1) | exact HB.out)⟩
end Go.Proofs.Ytcpojohpmcnnhaa.PA

namespace Go.Proofs.Ytcpojohpmcnnhaa.PA
open Go.RowKit Go.Proofs.YtcpojohpmcnnhaaW.PrintWords Go.Proofs.YtcpojohpmcnnhaaW.PrintLast Go.Proofs.YtcpojohpmcnnhaaW.PrintMore
attribute [local go_sem] max2_int min2_int max_two min_two max_three min_three max_four min_four
set_option linter.unusedVariables false
set_option linter.unusedSimpArgs false
def turndownref06_within.l0 : Nat → List Int → Int → Int → Option (Bool)
 | 0, _, _, _ => none
 | k + 1, x0, x1, x5 => if x5 < (x0.length : Int) then (if 0 ≤ x5 then (if (rd x0 x5) < 0 then (some false) else (if (rd x0 x5) > x1 then (some false) else (turndownref06_within.l0 k x0 x1 (wrap64 (x5 + 1))))) else (none)) else (if (x0.length : Int) ≥ 1 then (some (decide ((x0.length : Int) ≤ 64))) else (some false))
def turndownref06_within.f (k : Nat) (l0 : List Int) (a1 : Int) : Option (Bool) := turndownref06_within.l0 k l0 a1 0
set_option maxHeartbeats 8000000 in
set_option maxRecDepth 100000 in
theorem turndownref06_within.calls (k : Nat) (A0 : Option Addr) (c0 : Nat) (l0 : List Int) (a1 : Int) (r : Bool) (w : World) (hr0 : Kd.C (Kd.int .i64) w A0 l0.length l0) (hc0 : l0.length ≤ c0) (h : turndownref06_within.f k l0 a1 = some r) :
  Calls Try.prog 53 #[.slice A0 l0.length c0, .int .i64 a1] w fun e w' => e = .returned (.bool r) ∧ Drawn0 w w' := by
 have HR0 := Aside0.mk hr0
 have HC0 := Aside0.mk hc0
 clear hr0 hc0
 have H : (turndownref06_within.l0 k l0 a1 0) = some r := h
 clear h
 have H' := Aside0.mk H
 clear H
 go_enter Try.func53, Try.ntmps53
 go_wp2
 go_loopg [5] k (fun kq v5 w' => ∃ (x5_1 : Int), v5 = .int .i64 x5_1 ∧ Aside0 (turndownref06_within.l0 kq l0 a1 x5_1 = some r) ∧ Aside0 (kq ≤ k) ∧ Drawn0 w w')
 case atStart => exact ⟨(0), (by first | rfl | (simp; done) | (simp [*]; done)), H', ⟨Nat.le_refl _⟩, by repeat (first | exact Drawn0.refl _ | apply Drawn0.step)⟩
 case round =>
  clear H'
  try clear p2
  obtain ⟨x5_1, rfl, HA, HK1, ⟨m1, rfl⟩⟩ := hrel
  cases gk with
  | zero => exact absurd HA.out (by simp [turndownref06_within.l0])
  | succ k1 =>
   have H := HA.out
   clear HA
   simp only [turndownref06_within.l0] at H
   by_cases c3 : x5_1 < (l0.length : Int)
   ·
    rw [if_pos c3] at H
    have c3b0 : decide (x5_1 < (l0.length : Int)) = true := decide_eq_true c3
    clear c3
    by_cases c4 : 0 ≤ x5_1
    ·
     rw [if_pos c4] at H
     have c4b0 : decide (0 ≤ x5_1) = true := decide_eq_true c4
     clear c4
     by_cases c5 : (rd l0 x5_1) < 0
     ·
      rw [if_pos c5] at H
      have c5b0 : decide ((rd l0 x5_1) < 0) = true := decide_eq_true c5
      clear c5
      obtain rfl := Option.some.inj H
      have p121 : 0 ≤ (x5_1 : Int) := of_decide_eq_true (by first | (with_reducible assumption) | assumption)
      have q121 : x5_1 < (l0.length : Int) := of_decide_eq_true (by first | (with_reducible assumption) | assumption)
      obtain ⟨ad121, e121, hx121_0⟩ := Kd.at_int HR0.out x5_1 p121 q121
      cases e121
      replace p121 := eq_true p121
      replace q121 := eq_true q121
      go_wp2
      go_ret
      exact ⟨by first | rfl | (simp; done) | (simp [*]; done), by repeat (first | exact Drawn0.refl _ | apply Drawn0.step)⟩
     ·
      rw [if_neg c5] at H
      have c5b0 : decide ((rd l0 x5_1) < 0) = false := decide_eq_false c5
      clear c5
      by_cases c6 : (rd l0 x5_1) > a1
      ·
       rw [if_pos c6] at H
       have c6b0 : decide (a1 < (rd l0 x5_1)) = true := decide_eq_true c6
       clear c6
       obtain rfl := Option.some.inj H
       have p121 : 0 ≤ (x5_1 : Int) := of_decide_eq_true (by first | (with_reducible assumption) | assumption)
       have q121 : x5_1 < (l0.length : Int) := of_decide_eq_true (by first | (with_reducible assumption) | assumption)
       obtain ⟨ad121, e121, hx121_0⟩ := Kd.at_int HR0.out x5_1 p121 q121
       cases e121
       replace p121 := eq_true p121
       replace q121 := eq_true q121
       have p122 : 0 ≤ (x5_1 : Int) := of_decide_eq_true (by first | (with_reducible assumption) | assumption)
       have q122 : x5_1 < (l0.length : Int) := of_decide_eq_true (by first | (with_reducible assumption) | assumption)
       obtain ⟨ad122, e122, hx122_0⟩ := Kd.at_int HR0.out x5_1 p122 q122
       obtain rfl : ad121 = ad122 := (by injection e122)
       replace p122 := eq_true p122
       replace q122 := eq_true q122
       go_wp2
       go_ret
       exact ⟨by first | rfl | (simp; done) | (simp [*]; done), by repeat (first | exact Drawn0.refl _ | apply Drawn0.step)⟩
      ·
       rw [if_neg c6] at H
       have c6b0 : decide (a1 < (rd l0 x5_1)) = false := decide_eq_false c6
       clear c6
       have H' := Aside0.mk H
       clear H
       have p121 : 0 ≤ (x5_1 : Int) := of_decide_eq_true (by first | (with_reducible assumption) | assumption)
       have q121 : x5_1 < (l0.length : Int) := of_decide_eq_true (by first | (with_reducible assumption) | assumption)
       obtain ⟨ad121, e121, hx121_0⟩ := Kd.at_int HR0.out x5_1 p121 q121
       cases e121
       replace p121 := eq_true p121
       replace q121 := eq_true q121
       have p122 : 0 ≤ (x5_1 : Int) := of_decide_eq_true (by first | (with_reducible assumption) | assumption)
       have q122 : x5_1 < (l0.length : Int) := of_decide_eq_true (by first | (with_reducible assumption) | assumption)
       obtain ⟨ad122, e122, hx122_0⟩ := Kd.at_int HR0.out x5_1 p122 q122
       obtain rfl : ad121 = ad122 := (by injection e122)
       replace p122 := eq_true p122
       replace q122 := eq_true q122
       go_wp2
       go_roundg k1
       case measure => have := HK1.out; omega
       case rel => exact ⟨(wrap64 (x5_1 + 1)), (by first | rfl | (simp; done) | (simp [*]; done)), H', ⟨by have := HK1.out; omega⟩, by repeat (first | exact Drawn0.refl _ | apply Drawn0.step)⟩
    ·
     rw [if_neg c4] at H
     exact absurd H (by simp)
   ·
    rw [if_neg c3] at H
    have c3b0 : decide (x5_1 < (l0.length : Int)) = false := decide_eq_false c3
    clear c3
    by_cases c7 : (l0.length : Int) ≥ 1
    ·
     rw [if_pos c7] at H
     have c7b0 : decide (1 ≤ (l0.length : Int)) = true := decide_eq_true c7
     have c7b1 : decide (1 ≤ l0.length) = true := decide_eq_true (by omega)
     clear c7
     obtain rfl := Option.some.inj H
     go_wp2
     go_ret
     exact ⟨by first | rfl | (simp; done) | (simp [*]; done), by repeat (first | exact Drawn0.refl _ | apply Drawn0.step)⟩
    ·
     rw [if_neg c7] at H
     have c7b0 : decide (1 ≤ (l0.length : Int)) = false := decide_eq_false c7
     have c7b1 : decide (1 ≤ l0.length) = false := decide_eq_false (by omega)
     clear c7
     obtain rfl := Option.some.inj H
     go_wp2
     go_ret
     exact ⟨by first | rfl | (simp; done) | (simp [*]; done), by repeat (first | exact Drawn0.refl _ | apply Drawn0.step)⟩
end Go.Proofs.Ytcpojohpmcnnhaa.PA

namespace Go.Proofs.Ytcpojohpmcnnhaa.PA
open Go.RowKit Go.Proofs.YtcpojohpmcnnhaaW.PrintWords Go.Proofs.YtcpojohpmcnnhaaW.PrintLast Go.Proofs.YtcpojohpmcnnhaaW.PrintMore
attribute [local go_sem] max2_int min2_int max_two min_two max_three min_three max_four min_four
set_option linter.unusedVariables false
set_option linter.unusedSimpArgs false
def turndownref06_Lengths.f (k : Nat) (l0 : List Int) : Option (Bool) := (turndownref06_within.f k l0 32).bind fun t238 => (some t238)
set_option maxHeartbeats 8000000 in
set_option maxRecDepth 100000 in
theorem turndownref06_Lengths.calls (k : Nat) (A0 : Option Addr) (c0 : Nat) (l0 : List Int) (r : Bool) (w : World) (hr0 : Kd.C (Kd.int .i64) w A0 l0.length l0) (hc0 : l0.length ≤ c0) (h : turndownref06_Lengths.f k l0 = some r) :
  Calls Try.prog 24 #[.slice A0 l0.length c0] w fun e w' => e = .returned (.bool r) ∧ Drawn0 w w' := by
 have HR0 := Aside0.mk hr0
 have HC0 := Aside0.mk hc0
 clear hr0 hc0
 have H : ((turndownref06_within.f k l0 32).bind fun t238 => (some t238)) = some r := h
 clear h
 replace H := Option.bind_eq_some_iff.mp H
 obtain ⟨t238, A20, H⟩ := H
 replace H : (some t238) = some r := H
 have A2 := Aside0.mk A20
 clear A20
 obtain rfl := Option.some.inj H
 go_enter Try.func24, Try.ntmps24
 go_wp2_with (first | ((with_reducible refine gate_callee (f := 53) rfl ?_); refine goesL_ (some 4) rfl rfl Try.func53 (by kernel_rfl) rfl #[.slice A0 l0.length c0, .int .i64 32] rfl (by (try simp only [List.map_toArray, List.map_cons, List.map_nil]); first | done | rfl | (simp only [List.length_drop, List.length_take]; rfl)) ?_; (with_reducible refine (turndownref06_within.calls k _ _ l0 32 t238 _ ?side1 ?side2 A2.out).mono ?_); (case side1 => repeat (first | exact HR0.out | (with_reducible refine Kd.C_alloc ?_ _) | (with_reducible refine Kd.C_drewN ?_ _) | (with_reducible refine Kd.C_drew ?_))); (case side2 => exact HC0.out); rintro e w' ⟨rfl, ⟨nd, rfl⟩⟩; refine ⟨_, rfl, ?_⟩))
 go_ret
 exact ⟨by first | rfl | (simp; done) | (simp [*]; done), by repeat (first | exact Drawn0.refl _ | apply Drawn0.step)⟩
end Go.Proofs.Ytcpojohpmcnnhaa.PA

namespace Go.Proofs.Ytcpojohpmcnnhaa.PA
open Go.RowKit Go.Proofs.YtcpojohpmcnnhaaW.PrintWords Go.Proofs.YtcpojohpmcnnhaaW.PrintLast Go.Proofs.YtcpojohpmcnnhaaW.PrintMore
attribute [local go_sem] max2_int min2_int max_two min_two max_three min_three max_four min_four
set_option linter.unusedVariables false
set_option linter.unusedSimpArgs false
def turndownref06_Sum.l0 : Nat → List Int → Int → Int → Option (Int)
 | 0, _, _, _ => none
 | k + 1, x0, x3, x4 => if x4 < (x0.length : Int) then (if 0 ≤ x4 then (if 0 ≤ (wrap64 (32 - (rd x0 x4))) then (turndownref06_Sum.l0 k x0 (wrap64 (x3 + (shl .i64 1 (wrap64 (32 - (rd x0 x4)))))) (wrap64 (x4 + 1))) else (none)) else (none)) else (some x3)
def turndownref06_Sum.f (k : Nat) (l0 : List Int) : Option (Int) := turndownref06_Sum.l0 k l0 0 0
set_option maxHeartbeats 8000000 in
set_option maxRecDepth 100000 in
theorem turndownref06_Sum.calls (k : Nat) (A0 : Option Addr) (c0 : Nat) (l0 : List Int) (r : Int) (w : World) (hr0 : Kd.C (Kd.int .i64) w A0 l0.length l0) (hc0 : l0.length ≤ c0) (h : turndownref06_Sum.f k l0 = some r) :
  Calls Try.prog 40 #[.slice A0 l0.length c0] w fun e w' => e = .returned (.int .i64 r) ∧ Drawn0 w w' := by
 have HR0 := Aside0.mk hr0
 have HC0 := Aside0.mk hc0
 clear hr0 hc0
 have H : (turndownref06_Sum.l0 k l0 0 0) = some r := h
 clear h
 have H' := Aside0.mk H
 clear H
 go_enter Try.func40, Try.ntmps40
 go_wp2
 go_loopg [3, 4] k (fun kq v3 v4 w' => ∃ (x3_1 : Int) (x4_1 : Int), v3 = .int .i64 x3_1 ∧ v4 = .int .i64 x4_1 ∧ Aside0 (turndownref06_Sum.l0 kq l0 x3_1 x4_1 = some r) ∧ Aside0 (kq ≤ k) ∧ Drawn0 w w')
 case atStart => exact ⟨(0), (0), (by first | rfl | (simp; done) | (simp [*]; done)), (by first | rfl | (simp; done) | (simp [*]; done)), H', ⟨Nat.le_refl _⟩, by repeat (first | exact Drawn0.refl _ | apply Drawn0.step)⟩
 case round =>
  clear H'
  obtain ⟨x3_1, x4_1, rfl, rfl, HA, HK1, ⟨m1, rfl⟩⟩ := hrel
  cases gk with
  | zero => exact absurd HA.out (by simp [turndownref06_Sum.l0])
  | succ k1 =>
   have H := HA.out
   clear HA
   simp only [turndownref06_Sum.l0] at H
   by_cases c2 : x4_1 < (l0.length : Int)
   ·
    rw [if_pos c2] at H
    have c2b0 : decide (x4_1 < (l0.length : Int)) = true := decide_eq_true c2
    clear c2
    by_cases c3 : 0 ≤ x4_1
    ·
     rw [if_pos c3] at H
     have c3b0 : decide (0 ≤ x4_1) = true := decide_eq_true c3
     clear c3
     obtain ⟨ji4, hji4⟩ : ∃ j_ : Int, (wrap64 (32 - (rd l0 x4_1))) = j_ := ⟨_, rfl⟩
     replace H : (if 0 ≤ (ji4) then (turndownref06_Sum.l0 k1 l0 (wrap64 (x3_1 + (shl .i64 1 (ji4)))) (wrap64 (x4_1 + 1))) else (none)) = some r := by first | (rw [hji4] at H; exact H) | (simp only [hji4] at H ⊢; exact H)
     have hji4w : (IntKind.i64.wrap (32 - (rd l0 x4_1))) = ji4 := (i64_w _).trans hji4
     by_cases c5 : 0 ≤ (ji4)
     ·
      rw [if_pos c5] at H
      have c5b0 := eq_true c5
      have c5b1 : decide (0 ≤ (ji4)) = true := decide_eq_true c5
      clear c5
      obtain ⟨ji6, hji6⟩ : ∃ j_ : Int, (shl .i64 1 (ji4)) = j_ := ⟨_, rfl⟩
      replace H : (turndownref06_Sum.l0 k1 l0 (wrap64 (x3_1 + (ji6))) (wrap64 (x4_1 + 1))) = some r := by first | (rw [hji6] at H; exact H) | (simp only [hji6] at H ⊢; exact H)
      have hji6_ : (IntKind.i64.wrap (1 * 2 ^ min (ji4).toNat 64)) = ji6 := hji6
      have hji6z : (ji4) ≤ 64 → (IntKind.i64.wrap (1 * 2 ^ (ji4).toNat)) = ji6 := shl_small hji6
      have hji6u : (IntKind.i64.wrap (2 ^ min (ji4).toNat 64)) = ji6 := by have h_ := hji6_; rw [Int.one_mul] at h_; exact h_
      have hji6v : (ji4) ≤ 64 → (IntKind.i64.wrap (2 ^ (ji4).toNat)) = ji6 := fun hle_ => by have h_ := hji6z hle_; rw [Int.one_mul] at h_; exact h_
      have hji6y : (wrap64 (1 * 2 ^ min (ji4).toNat 64)) = ji6 := (i64_w _).symm.trans hji6_
      have hji6x : (ji4) ≤ 64 → (wrap64 (1 * 2 ^ (ji4).toNat)) = ji6 := fun h_ => (i64_w _).symm.trans (hji6z h_)
      have H' := Aside0.mk H
      clear H
      have p239 : 0 ≤ (x4_1 : Int) := of_decide_eq_true (by first | (with_reducible assumption) | assumption)
      have q239 : x4_1 < (l0.length : Int) := of_decide_eq_true (by first | (with_reducible assumption) | assumption)
      obtain ⟨ad239, e239, hx239_0⟩ := Kd.at_int HR0.out x4_1 p239 q239
      cases e239
      replace p239 := eq_true p239
      replace q239 := eq_true q239
      go_wp2
      go_roundg k1
      case measure => have := HK1.out; omega
      case rel => exact ⟨(wrap64 (x3_1 + (ji6))), (wrap64 (x4_1 + 1)), (by first | rfl | (simp; done) | (simp only [← hji6] <;> (first | rfl | simp)) | (simp [*]; done)), (by first | rfl | (simp; done) | (simp [*]; done)), H', ⟨by have := HK1.out; omega⟩, by repeat (first | exact Drawn0.refl _ | apply Drawn0.step)⟩
     ·
      rw [if_neg c5] at H
      exact absurd H (by simp)
    ·
     rw [if_neg c3] at H
     exact absurd H (by simp)
   ·
    rw [if_neg c2] at H
    have c2b0 : decide (x4_1 < (l0.length : Int)) = false := decide_eq_false c2
    clear c2
    obtain rfl := Option.some.inj H
    go_wp2
    go_ret
    exact ⟨by first | rfl | (simp; done) | (simp [*]; done), by repeat (first | exact Drawn0.refl _ | apply Drawn0.step)⟩
end Go.Proofs.Ytcpojohpmcnnhaa.PA

namespace Go.Proofs.Ytcpojohpmcnnhaa.PA
open Go.RowKit Go.Proofs.YtcpojohpmcnnhaaW.PrintWords Go.Proofs.YtcpojohpmcnnhaaW.PrintLast Go.Proofs.YtcpojohpmcnnhaaW.PrintMore
attribute [local go_sem] max2_int min2_int max_two min_two max_three min_three max_four min_four
set_option linter.unusedVariables false
set_option linter.unusedSimpArgs false
def turndownref06_Possible.f (k : Nat) (l0 : List Int) : Option (Bool) := (turndownref06_Sum.f k l0).bind fun t240 => (some (decide (t240 ≤ 4294967296)))
set_option maxHeartbeats 8000000 in
set_option maxRecDepth 100000 in
theorem turndownref06_Possible.calls (k : Nat) (A0 : Option Addr) (c0 : Nat) (l0 : List Int) (r : Bool) (w : World) (hr0 : Kd.C (Kd.int .i64) w A0 l0.length l0) (hc0 : l0.length ≤ c0) (h : turndownref06_Possible.f k l0 = some r) :
  Calls Try.prog 25 #[.slice A0 l0.length c0] w fun e w' => e = .returned (.bool r) ∧ Drawn0 w w' := by
 have HR0 := Aside0.mk hr0
 have HC0 := Aside0.mk hc0
 clear hr0 hc0
 have H : ((turndownref06_Sum.f k l0).bind fun t240 => (some (decide (t240 ≤ 4294967296)))) = some r := h
 clear h
 replace H := Option.bind_eq_some_iff.mp H
 obtain ⟨t240, A20, H⟩ := H
 replace H : (some (decide (t240 ≤ 4294967296))) = some r := H
 have A2 := Aside0.mk A20
 clear A20
 obtain rfl := Option.some.inj H
 go_enter Try.func25, Try.ntmps25
 go_wp2_with (first | ((with_reducible refine gate_callee (f := 40) rfl ?_); refine goesL_ (some 4) rfl rfl Try.func40 (by kernel_rfl) rfl #[.slice A0 l0.length c0] rfl (by (try simp only [List.map_toArray, List.map_cons, List.map_nil]); first | done | rfl | (simp only [List.length_drop, List.length_take]; rfl)) ?_; (with_reducible refine (turndownref06_Sum.calls k _ _ l0 t240 _ ?side1 ?side2 A2.out).mono ?_); (case side1 => repeat (first | exact HR0.out | (with_reducible refine Kd.C_alloc ?_ _) | (with_reducible refine Kd.C_drewN ?_ _) | (with_reducible refine Kd.C_drew ?_))); (case side2 => exact HC0.out); rintro e w' ⟨rfl, ⟨nd, rfl⟩⟩; refine ⟨_, rfl, ?_⟩))
 go_ret
 exact ⟨by first | rfl | (simp; done) | (simp [*]; done), by repeat (first | exact Drawn0.refl _ | apply Drawn0.step)⟩
end Go.Proofs.Ytcpojohpmcnnhaa.PA

set_option linter.unusedVariables false
set_option linter.unusedSimpArgs false
namespace Go.Proofs.Ytcpojohpmcnnhaa.L
open Go.RowKit Go.Proofs.YtcpojohpmcnnhaaW.PrintWords Go.Proofs.YtcpojohpmcnnhaaW.PrintLast Go.Proofs.YtcpojohpmcnnhaaW.PrintMore
open Go.Proofs.Ytcpojohpmcnnhaa.PA Go.Proofs.Ytcpojohpmcnnhaa.A
def okB (lo hi : Int) (l : List Int) : Bool := l.all (fun x => decide (lo ≤ x) && decide (x ≤ hi))
def lenB (l : List Int) : Bool := decide (1 ≤ (l.length : Int)) && decide ((l.length : Int) ≤ 64)
theorem okB_iff {lo hi : Int} {l : List Int} : okB lo hi l = true ↔ ∀ x, x ∈ l → lo ≤ x ∧ x ≤ hi := by simp [okB]
theorem lenB_iff {l : List Int} : lenB l = true ↔ 1 ≤ l.length ∧ l.length ≤ 64 := by simp [lenB]; omega
theorem within_all (a b c : Int) : code_within.f a b c = some (decide (b ≤ a) && decide (a ≤ c)) := by
  unfold code_within.f
  by_cases h : a ≥ b
  · rw [if_pos h]; simp [h]
  · rw [if_neg h]; simp; omega
theorem every_all (l : List Int) (lo hi : Int) : code_every.f l lo hi = some (okB lo hi l) := by
  unfold code_every.f okB
  congr 1
  induction l with
  | nil => rfl
  | cons x l ih =>
    rw [List.any_cons, List.all_cons, ← ih]
    unfold outB withinB
    cases (decide (lo ≤ x) && decide (x ≤ hi)) <;> simp
theorem rd_nat (l : List Int) (q : Nat) : rd l (q : Int) = l.getD q 0 := rfl
theorem w1 {q : Nat} (h : q ≤ 100000000) : wrap64 ((q : Int) + 1) = ((q + 1 : Nat) : Int) := by unfold wrap64; omega
theorem drop_cons {α : Type} {l : List α} {q : Nat} (h : q < l.length) (d : α) : l.drop q = l.getD q d :: l.drop (q + 1) := by
  rw [List.getD_eq_getElem?_getD, List.getElem?_eq_getElem h]
  exact List.drop_eq_getElem_cons h
theorem refWithin_ev {l : List Int} (hl : l.length ≤ 1000000) (m : Int) : Ev (fun k => turndownref06_within.f k l m) (okB 0 m l && lenB l) := by
  have key : ∀ e q, q + e = l.length → Ev (fun k => turndownref06_within.l0 k l m (q : Int)) (okB 0 m (l.drop q) && lenB l) := by
    intro e
    induction e with
    | zero =>
      intro q hq
      refine Ev.step (fun k => ?_) (Ev.now _)
      rw [turndownref06_within.l0, if_neg (by omega), List.drop_of_length_le (by omega)]
      by_cases h : (l.length : Int) ≥ 1
      · rw [if_pos h]; simp [okB, lenB, h]
      · rw [if_neg h]; simp [okB, lenB]; omega
    | succ e ih =>
      intro q hq
      have hql : q < l.length := by omega
      have hd := drop_cons hql 0
      have h1 := ih (q + 1) (by omega)
      have hs : ∀ k, turndownref06_within.l0 (k + 1) l m (q : Int) = if l.getD q 0 < 0 then some false else if l.getD q 0 > m then some false else turndownref06_within.l0 k l m ((q + 1 : Nat) : Int) := fun k => by
        rw [turndownref06_within.l0, if_pos (by omega), if_pos (by omega), rd_nat, w1 (by omega)]
      rw [hd]
      by_cases c1 : l.getD q 0 < 0
      · refine Ev.step (fun k => ?_) (Ev.now _)
        rw [hs, if_pos c1]
        have : okB 0 m (l.getD q 0 :: l.drop (q + 1)) = false := by
          generalize l.getD q 0 = x at c1
          unfold okB; rw [List.all_cons]; simp; omega
        rw [this]; rfl
      · by_cases c2 : l.getD q 0 > m
        · refine Ev.step (fun k => ?_) (Ev.now _)
          rw [hs, if_neg c1, if_pos c2]
          have : okB 0 m (l.getD q 0 :: l.drop (q + 1)) = false := by
            generalize l.getD q 0 = x at c1 c2
            unfold okB; rw [List.all_cons]; simp; omega
          rw [this]; rfl
        · have : okB 0 m (l.getD q 0 :: l.drop (q + 1)) = okB 0 m (l.drop (q + 1)) := by
            unfold okB; rw [List.all_cons]
            have : (decide (0 ≤ l.getD q 0) && decide (l.getD q 0 ≤ m)) = true := by
              generalize l.getD q 0 = x at c1 c2
              simp; omega
            rw [this]; rfl
          rw [this]
          exact Ev.step (fun k => by rw [hs, if_neg c1, if_neg c2]) h1
  exact key l.length 0 (by omega)
theorem refLengths_ev {l : List Int} (hl : l.length ≤ 1000000) : Ev (fun k => turndownref06_Lengths.f k l) (okB 0 32 l && lenB l) := Ev.bind (f := fun _ t => some t) (refWithin_ev hl _) (Ev.now _)
def sumI (l : List Int) : Int := (l.map fun x => (2 : Int) ^ (32 - x).toNat).sum
theorem pow_le32 {n : Nat} (h : n ≤ 32) : (2 : Int) ^ n ≤ 4294967296 := by
  have h2 : 2 ^ n ≤ 2 ^ 32 := Nat.pow_le_pow_right (by omega) h
  have h3 : (((2 ^ n : Nat)) : Int) ≤ ((2 ^ 32 : Nat) : Int) := by omega
  have e : (((2 ^ n : Nat)) : Int) = (2 : Int) ^ n := by push_cast; rfl
  rw [← e]; omega
theorem shl_one {n : Int} (h0 : 0 ≤ n) (h : n ≤ 32) : shl .i64 1 n = (2 : Int) ^ n.toNat := by
  unfold shl
  have h64 : IntKind.i64.bits = 64 := rfl
  rw [h64, Nat.min_eq_left (by omega), Int.one_mul]
  obtain ⟨m, rfl⟩ := Int.eq_ofNat_of_zero_le h0
  have h2 : (2 : Int) ^ m ≤ 4294967296 := pow_le32 (by omega)
  have h3 : (0 : Int) < 2 ^ m := Int.pow_pos (by omega)
  rw [Int.toNat_natCast]
  exact IntWalk.i64_in _ (by omega)
theorem sumI_bd {l : List Int} (h : okB 0 32 l = true) : 0 ≤ sumI l ∧ sumI l ≤ 4294967296 * (l.length : Int) := by
  induction l with
  | nil => simp [sumI]
  | cons x l ih =>
    rw [okB_iff] at h
    have hx := h x (by simp)
    have := ih (okB_iff.2 fun y hy => h y (by simp [hy]))
    have h2 : (2 : Int) ^ (32 - x).toNat ≤ 4294967296 := pow_le32 (by omega)
    have h3 : (0 : Int) < 2 ^ (32 - x).toNat := Int.pow_pos (by omega)
    simp only [sumI, List.map_cons, List.sum_cons, List.length_cons] at this ⊢
    push_cast
    omega
theorem sumI_cons (x : Int) (l : List Int) : sumI (x :: l) = (2 : Int) ^ (32 - x).toNat + sumI l := by simp [sumI]
theorem sum_step {l : List Int} (hl : l.length ≤ 1000000) (hok : okB 0 32 l = true) {q : Nat} (hq : q < l.length) : 0 ≤ l.getD q 0 ∧ l.getD q 0 ≤ 32 ∧ wrap64 (32 - l.getD q 0) = 32 - l.getD q 0 ∧ 0 ≤ wrap64 (32 - l.getD q 0) ∧
    ∀ s : Int, s + sumI (l.drop q) = sumI l → 0 ≤ s → wrap64 (s + shl .i64 1 (32 - l.getD q 0)) = s + (2 : Int) ^ (32 - l.getD q 0).toNat ∧ (s + (2 : Int) ^ (32 - l.getD q 0).toNat) + sumI (l.drop (q + 1)) = sumI l ∧ 0 ≤ s + (2 : Int) ^ (32 - l.getD q 0).toNat := by
  have hm : l.getD q 0 ∈ l := by rw [List.getD_eq_getElem?_getD, List.getElem?_eq_getElem hq]; exact List.getElem_mem hq
  have hx := okB_iff.1 hok _ hm
  have e : wrap64 (32 - l.getD q 0) = 32 - l.getD q 0 := by unfold wrap64; omega
  refine ⟨hx.1, hx.2, e, by rw [e]; omega, fun s hs h0 => ?_⟩
  rw [drop_cons hq 0, sumI_cons] at hs
  have h3 : (0 : Int) < 2 ^ (32 - l.getD q 0).toNat := Int.pow_pos (by omega)
  have hb := (sumI_bd (l := l) hok).2
  have hb2 := (sumI_bd (l := l.drop (q + 1)) (okB_iff.2 fun y hy => okB_iff.1 hok y (List.mem_of_mem_drop hy))).1
  rw [shl_one (by omega) (by omega)]
  refine ⟨?_, by omega, by omega⟩
  have h5 : (l.length : Int) ≤ 1000000 := by omega
  have h6 : 4294967296 * (l.length : Int) ≤ 4294967296 * 1000000 := by omega
  unfold wrap64
  omega
theorem refSum_ev {l : List Int} (hl : l.length ≤ 1000000) (hok : okB 0 32 l = true) : Ev (fun k => turndownref06_Sum.f k l) (sumI l) := by
  have key : ∀ e q (s : Int), q + e = l.length → s + sumI (l.drop q) = sumI l → 0 ≤ s → Ev (fun k => turndownref06_Sum.l0 k l s (q : Int)) (sumI l) := by
    intro e
    induction e with
    | zero =>
      intro q s hq hs h0
      refine Ev.step (fun k => ?_) (Ev.now _)
      rw [turndownref06_Sum.l0, if_neg (by omega)]
      rw [List.drop_of_length_le (by omega)] at hs
      have : sumI [] = 0 := rfl
      congr 1; omega
    | succ e ih =>
      intro q s hq hs h0
      have hql : q < l.length := by omega
      obtain ⟨a1, a2, a3, a4, a5⟩ := sum_step hl hok hql
      obtain ⟨b1, b2, b3⟩ := a5 s hs h0
      refine Ev.step (fun k => ?_) (ih (q + 1) _ (by omega) b2 b3)
      rw [turndownref06_Sum.l0, if_pos (by omega), if_pos (by omega), rd_nat, if_pos a4, a3, b1, w1 (by omega)]
  exact key l.length 0 0 (by omega) (by rw [List.drop_zero]; omega) (by omega)
theorem refPossible_ev {l : List Int} (hl : l.length ≤ 1000000) (hok : okB 0 32 l = true) : Ev (fun k => turndownref06_Possible.f k l) (decide (sumI l ≤ 4294967296)) := Ev.bind (f := fun _ t => some (decide (t ≤ 4294967296))) (refSum_ev hl hok) (Ev.now _)
def checkI (l : List Int) : Int := if (lenB l && okB 0 32 l) = true then (if sumI l > 4294967296 then 60 else 0) else 2
theorem check_ev (l : List Int) (hl : l.length ≤ 1000000) : Ev (fun k => code_check.f k l) (checkI l) := by
  unfold checkI
  have hj : ∀ k, code_check.f k l = code_check.j0 k l (!(lenB l && okB 0 32 l)) := fun k => by
    unfold code_check.f
    rw [within_all]
    simp only [Option.bind_some]
    by_cases h : lenB l = true
    · have h' : (decide (1 ≤ (l.length : Int)) && decide ((l.length : Int) ≤ 64)) = true := h
      rw [if_pos h', every_all, h]
      rfl
    · have h' : ¬ (decide (1 ≤ (l.length : Int)) && decide ((l.length : Int) ≤ 64)) = true := h
      rw [if_neg h']
      simp [h]
  refine Ev.congr hj ?_
  by_cases hc : (lenB l && okB 0 32 l) = true
  · rw [if_pos hc, hc]
    have hok : okB 0 32 l = true := by rw [Bool.and_eq_true] at hc; exact hc.2
    have key : ∀ e q (s : Int), q + e = l.length → s + sumI (l.drop q) = sumI l → 0 ≤ s → Ev (fun k => code_check.l0 k s l (l.length : Int) (q : Int)) (if sumI l > 4294967296 then 60 else 0) := by
      intro e
      induction e with
      | zero =>
        intro q s hq hs h0
        refine Ev.step (fun k => ?_) (Ev.now _)
        rw [code_check.l0, if_neg (by omega)]
        rw [List.drop_of_length_le (by omega)] at hs
        have : sumI [] = 0 := rfl
        have hs' : s = sumI l := by omega
        rw [hs']
        split <;> rfl
      | succ e ih =>
        intro q s hq hs h0
        have hql : q < l.length := by omega
        obtain ⟨a1, a2, a3, a4, a5⟩ := sum_step hl hok hql
        obtain ⟨b1, b2, b3⟩ := a5 s hs h0
        refine Ev.step (fun k => ?_) (ih (q + 1) _ (by omega) b2 b3)
        rw [code_check.l0, if_pos (by omega), if_pos (by omega), if_pos (by omega), rd_nat, if_pos a4, a3, b1, w1 (by omega)]
    refine Ev.step (fun k => ?_) (key l.length 0 0 (by omega) (by rw [List.drop_zero]; omega) (by omega))
    rw [code_check.j0, if_neg (by simp)]
    rfl
  · rw [if_neg hc]
    refine Ev.step (fun k => ?_) (Ev.now _)
    rw [Bool.eq_false_iff.2 hc, code_check.j0, if_pos (by rfl)]
theorem awake_ev : Ev (fun k => turndownlaw06_awake.f k) true := Ev.of (fun k => turndownlaw06_awake.mono k) (k := 200) (by decide +kernel)
end Go.Proofs.Ytcpojohpmcnnhaa.L

set_option linter.unusedVariables false
set_option linter.unusedSimpArgs false
namespace Go.Proofs.Ytcpojohpmcnnhaa.L
open Go.RowKit Go.Proofs.YtcpojohpmcnnhaaW.PrintWords Go.Proofs.YtcpojohpmcnnhaaW.PrintLast Go.Proofs.YtcpojohpmcnnhaaW.PrintMore
open Go.Proofs.Ytcpojohpmcnnhaa.PA Go.Proofs.Ytcpojohpmcnnhaa.A
def wordsL (l : List Int) : List ByteArray := (foldW l (ordL (keyI l) l.length)).2
theorem wordsL_len (l : List Int) : (wordsL l).length = l.length := foldW_len _ _
theorem foldl_sum (l : List Int) : ∀ (o : List Nat) (st : Int × List ByteArray), (o.foldl (stepW l) st).1 = st.1 + (o.map (fun s => partI (l.getD s 0))).sum
  | [], st => by simp
  | s :: o, st => by
    rw [List.foldl_cons, foldl_sum l o]
    show (st.1 + partI (l.getD s 0)) + _ = _
    rw [List.map_cons, List.sum_cons]; omega
theorem fold_total {l : List Int} (hok : okB 0 32 l = true) : (foldW l (ordL (keyI l) l.length)).1 = sumI l := by
  have h1 : (foldW l (ordL (keyI l) l.length)).1 = 0 + ((ordL (keyI l) l.length).map (fun s => partI (l.getD s 0))).sum := foldl_sum l _ _
  have h2 := K.sum_perm_int ((ordL_perm (keyI l) l.length).map (fun s => partI (l.getD s 0)))
  rw [h1, Int.zero_add, h2]
  unfold sumI
  conv => rhs; rw [← K.range_getD l]
  rw [List.map_map]
  congr 1
  refine List.map_congr_left (fun s hs => ?_)
  have := okB_iff.1 hok (l.getD s 0) (by
    have hs' := List.mem_range.1 hs
    rw [List.getD_eq_getElem?_getD, List.getElem?_eq_getElem hs']; exact List.getElem_mem hs')
  show (2 : Int) ^ (32 - (l.getD s 0).toNat) = 2 ^ (32 - l.getD s 0).toNat
  congr 1; omega
theorem codeWords_f {l : List Int} (h1 : 1 ≤ l.length) (h64 : l.length ≤ 64) (hok : okB 0 32 l = true) (hs : sumI l ≤ 4294967296) : code_words.f l = some (wordsL l) := by
  unfold code_words.f
  rw [if_pos ⟨⟨by omega, by omega⟩, hok, by rw [fold_total hok]; exact hs⟩]
  rfl
section
variable {l : List Int}
theorem refWords_ev (h1 : 1 ≤ l.length) (h64 : l.length ≤ 64) (hok : okB 0 32 l = true) (hs : sumI l ≤ 4294967296) : Ev (fun k => turndownref06_Words.f k l) (wordsL l) := by
  have hall := ordR_all (l := l) (okB_iff.1 hok)
  have htot : (stW l (ordR l 33)).1 ≤ 4294967296 := by
    have := fold_total hok
    rw [hall, stW_foldW, this]; exact hs
  have hfin : (stW l (ordR l 33)).2 = wordsL l := by rw [hall, stW_foldW]; rfl
  have hnn : ∀ P, 0 ≤ (stW l P).1 := fun P => foldW_nn l P
  have hol : ∀ P, (stW l P).2.length = l.length := fun P => foldW_len l P
  have sym : ∀ (v i : Nat), v ≤ 32 → i < l.length → l.getD i 0 = (v : Int) → ∀ {r : List ByteArray} {word : ByteArray}, WOk (stW l (ordR l v ++ nightR l v i)).1 word v →
      (∀ word', WOk (stW l (ordR l v ++ nightR l v (i + 1))).1 word' v → Ev (fun k => turndownref06_Words.l1 k l (stW l (ordR l v ++ nightR l v (i + 1))).2 word' (v : Int) ((i + 1 : Nat) : Int)) r) →
      Ev (fun k => turndownref06_Words.l2 k l (stW l (ordR l v ++ nightR l v i)).2 word (v : Int) (i : Int)) r := by
    intro v i hv hi he r word hW hk
    obtain ⟨P, hP⟩ : ∃ P, ordR l v ++ nightR l v i = P := ⟨_, rfl⟩
    have hP1 : ordR l v ++ nightR l v (i + 1) = P ++ [i] := by rw [nightR_succ, if_pos he, ← hP, List.append_assoc]
    have hst : stW l (P ++ [i]) = ((stW l P).1 + 2 ^ (32 - v), (stW l P).2.set i (wordB (stW l P).1 (v : Int))) := by
      rw [stW_snoc]
      unfold stepW partI
      rw [he, Int.toNat_natCast]
    have hpos : (0 : Int) < 2 ^ (32 - v) := Int.pow_pos (by omega)
    have hlt : (stW l P).1 < 4294967296 := by
      obtain ⟨Q, hQ⟩ := ordR_pre l v (i + 1) (by omega) (32 - v)
      rw [show v + 1 + (32 - v) = 33 by omega, hP1] at hQ
      have h3 := stW_le l (P ++ [i]) Q
      rw [← hQ, hst] at h3
      simp only at h3
      omega
    rw [hP1] at hk
    rw [hP] at hW ⊢
    have key : ∀ e (word : ByteArray), word.size + e = v → WOk (stW l P).1 word v → Ev (fun k => turndownref06_Words.l2 k l (stW l P).2 word (v : Int) (i : Int)) r := by
      intro e
      induction e with
      | zero =>
        intro word hw hWw
        obtain ⟨n1, n2⟩ := hWw.next (hnn P) hlt hv (by omega)
        have h4 := hk ⟨(plusB word.data.toList).toArray⟩ (by rw [hst]; exact n2)
        rw [hst] at h4
        simp only at h4
        refine Ev.step (fun k => ?_) h4
        have hsz : word.size ≤ 1000 := by omega
        have hpl : turndownref06_plus.f word = some ⟨(plusB word.data.toList).toArray⟩ := by unfold turndownref06_plus.f; rw [if_pos hsz]
        rw [turndownref06_Words.l2, if_neg (by omega), if_pos (by omega), if_pos (by rw [hol]; omega), hpl]
        simp only [Option.bind_some, Int.toNat_natCast]
        rw [w1 (by omega), ← n1]
      | succ e ih =>
        intro word hw hWw
        have hs1 : (word ++ (⟨#[48]⟩ : ByteArray)).size = word.size + 1 := by rw [ByteArray.size_append]; rfl
        refine Ev.step (fun k => ?_) (ih (word ++ ⟨#[48]⟩) (by omega) (hWw.pad hlt hv (by omega)))
        rw [turndownref06_Words.l2, if_pos (by omega), if_pos (by omega)]
    exact key (v - word.size) word (by have := hW.le; omega) hW
  have lev : ∀ (e v : Nat), v + e = 33 → ∀ word, WOk (stW l (ordR l v)).1 word v → Ev (fun k => turndownref06_Words.l0 k l (stW l (ordR l v)).2 word (v : Int)) (wordsL l) := by
    intro e
    induction e with
    | zero =>
      intro v hv word hW
      have : v = 33 := by omega
      subst this
      refine Ev.step (fun k => ?_) (Ev.now _)
      rw [turndownref06_Words.l0, if_neg (by omega), hfin]
    | succ e ih =>
      intro v hv word hW
      have inner : ∀ (d i : Nat), i + d = l.length → ∀ word, WOk (stW l (ordR l v ++ nightR l v i)).1 word v → Ev (fun k => turndownref06_Words.l1 k l (stW l (ordR l v ++ nightR l v i)).2 word (v : Int) (i : Int)) (wordsL l) := by
        intro d
        induction d with
        | zero =>
          intro i hi word hW
          have hi' : i = l.length := by omega
          subst hi'
          refine Ev.step (fun k => ?_) (ih (v + 1) (by omega) word hW.up)
          rw [turndownref06_Words.l1, if_neg (by omega), w1 (by omega)]
          rfl
        | succ d ihd =>
          intro i hi word hW
          by_cases he : l.getD i 0 = (v : Int)
          · refine Ev.step (fun k => ?_) (sym v i (by omega) (by omega) he hW (fun word' hW' => ihd (i + 1) (by omega) word' hW'))
            rw [turndownref06_Words.l1, if_pos (by omega), if_pos (by omega), rd_nat, if_pos he]
          · have hn1 : nightR l v (i + 1) = nightR l v i := by rw [nightR_succ, if_neg he, List.append_nil]
            have h5 := ihd (i + 1) (by omega) word (by rw [hn1]; exact hW)
            rw [hn1] at h5
            refine Ev.step (fun k => ?_) h5
            rw [turndownref06_Words.l1, if_pos (by omega), if_pos (by omega), rd_nat, if_neg he, w1 (by omega)]
      have h6 := inner l.length 0 (by omega) word (by
        have : nightR l v 0 = [] := rfl
        rw [this, List.append_nil]; exact hW)
      have h7 : nightR l v 0 = [] := rfl
      rw [h7, List.append_nil] at h6
      refine Ev.step (fun k => ?_) h6
      rw [turndownref06_Words.l0, if_pos (by omega)]
      rfl
  have h8 := lev 33 0 (by omega) ⟨#[]⟩ WOk.start
  refine Ev.congr (fun k => ?_) h8
  unfold turndownref06_Words.f
  rw [if_pos (by omega), if_pos (by omega), Int.toNat_natCast]
  rfl
end
end Go.Proofs.Ytcpojohpmcnnhaa.L

set_option linter.unusedVariables false
set_option linter.unusedSimpArgs false
namespace Go.Proofs.Ytcpojohpmcnnhaa.L
open Go.RowKit Go.Proofs.YtcpojohpmcnnhaaW.PrintWords Go.Proofs.YtcpojohpmcnnhaaW.PrintLast Go.Proofs.YtcpojohpmcnnhaaW.PrintMore
open Go.Proofs.Ytcpojohpmcnnhaa.PA Go.Proofs.Ytcpojohpmcnnhaa.A
theorem ok_at {l : List Int} (hok : okB 0 32 l = true) {s : Nat} (h : s < l.length) : 0 ≤ l.getD s 0 ∧ l.getD s 0 ≤ 32 := by
  refine okB_iff.1 hok _ ?_
  rw [List.getD_eq_getElem?_getD, List.getElem?_eq_getElem h]
  exact List.getElem_mem h
theorem digs_len0 (n : Int) (a : Nat) : (digs n a 0).length = a := by rw [digs_len]; omega
theorem fold_out (l : List Int) (s : Nat) : ∀ (o : List Nat) (st : Int × List ByteArray), s ∉ o → ((o.foldl (stepW l) st).2).getD s ⟨#[]⟩ = st.2.getD s ⟨#[]⟩
  | [], st, _ => rfl
  | x :: o, st, h => by
    simp only [List.mem_cons, not_or] at h
    rw [List.foldl_cons, fold_out l s o _ h.2]
    unfold stepW
    simp only [List.getD_eq_getElem?_getD]
    rw [List.getElem?_set_ne (fun e => h.1 e.symm)]
theorem fold_at (l : List Int) : ∀ (o : List Nat) (st : Int × List ByteArray), o.Nodup → (∀ x, x ∈ o → x < st.2.length) → ∀ q, q < o.length → ((o.foldl (stepW l) st).2).getD (o.getD q 0) ⟨#[]⟩ = wordB ((o.take q).foldl (stepW l) st).1 (l.getD (o.getD q 0) 0)
  | [], st, _, _, q, hq => by simp at hq
  | x :: o, st, h, hx, q, hq => by
    obtain ⟨h1, h2⟩ := List.nodup_cons.1 h
    rw [List.foldl_cons]
    match q, hq with
    | 0, _ =>
      simp only [List.getD_cons_zero, List.take_zero, List.foldl_nil]
      rw [fold_out l x o _ h1]
      unfold stepW
      simp only [List.getD_eq_getElem?_getD]
      rw [List.getElem?_set_self (hx x (List.mem_cons_self ..))]
      rfl
    | q + 1, hq =>
      simp only [List.getD_cons_succ, List.take_succ_cons, List.foldl_cons]
      refine fold_at l o _ h2 (fun y hy => ?_) q (by simp at hq; omega)
      have := hx y (List.mem_cons_of_mem _ hy)
      unfold stepW
      simpa using this
theorem word_at {l : List Int} {q : Nat} (hq : q < (ordL (keyI l) l.length).length) : (wordsL l).getD ((ordL (keyI l) l.length).getD q 0) ⟨#[]⟩ = wordB (foldW l ((ordL (keyI l) l.length).take q)).1 (l.getD ((ordL (keyI l) l.length).getD q 0) 0) := by
  have hp := fold_ins (keyI l) (List.range l.length) List.nodup_range
  refine fold_at l _ _ (srt_nodup hp.2) (fun x hx => ?_) q hq
  have := hp.1.subset hx
  simpa using List.mem_range.1 this
theorem pos_of {l : List Nat} {s : Nat} (h : s ∈ l) : ∃ q, q < l.length ∧ l.getD q 0 = s := by
  obtain ⟨q, hq, e⟩ := List.getElem_of_mem h
  exact ⟨q, hq, by rw [List.getD_eq_getElem?_getD, List.getElem?_eq_getElem hq]; exact e⟩
def wordN (l : List Int) (s : Nat) : List UInt8 := ((wordsL l).getD s ⟨#[]⟩).data.toList
theorem wordN_len {l : List Int} (hok : okB 0 32 l = true) {s : Nat} (h1 : s < l.length) : ((wordN l s).length : Int) = l.getD s 0 := by
  have hp := fold_ins (keyI l) (List.range l.length) List.nodup_range
  obtain ⟨p, hpo, ep⟩ := pos_of (hp.1.symm.subset (List.mem_range.2 h1))
  have hwp := word_at (l := l) (q := p) hpo
  have ep' : (ordL (keyI l) l.length).getD p 0 = s := ep
  rw [ep'] at hwp
  have hs1 := ok_at hok h1
  obtain ⟨a, ha⟩ := Int.eq_ofNat_of_zero_le hs1.1
  unfold wordN
  rw [hwp, ha]
  unfold wordB
  rw [Int.toNat_natCast]
  simp only [digs_len0]
end Go.Proofs.Ytcpojohpmcnnhaa.L

set_option linter.unusedVariables false
set_option linter.unusedSimpArgs false
namespace Go.Proofs.Ytcpojohpmcnnhaa.L
open Go.RowKit Go.Proofs.YtcpojohpmcnnhaaW.PrintWords Go.Proofs.YtcpojohpmcnnhaaW.PrintLast Go.Proofs.YtcpojohpmcnnhaaW.PrintMore
open Go.Proofs.Ytcpojohpmcnnhaa.PA Go.Proofs.Ytcpojohpmcnnhaa.A
def encL (wd : Nat → List UInt8) : List Int → List UInt8
  | [] => []
  | x :: r => wd x.toNat ++ encL wd r
theorem encL_app (wd : Nat → List UInt8) : ∀ a b : List Int, encL wd (a ++ b) = encL wd a ++ encL wd b
  | [], b => rfl
  | x :: a, b => by simp [encL, encL_app wd a b]
theorem encL_next (wd : Nat → List UInt8) (s : List Int) {i : Nat} (hi : i < s.length) : encL wd (s.take (i + 1)) = encL wd (s.take i) ++ wd (s.getD i 0).toNat := by
  rw [List.take_succ_eq_append_getElem hi, encL_app]
  congr 1
  simp [encL, List.getD_eq_getElem?_getD, hi]
theorem encL_len {wd : Nat → List UInt8} {m : Nat} {s : List Int} (h : ∀ x, x ∈ s → (wd x.toNat).length ≤ m) : (encL wd s).length ≤ m * s.length := by
  induction s with
  | nil => simp [encL]
  | cons x r ih =>
    have h1 := h x (List.mem_cons_self ..)
    have h2 := ih (fun y hy => h y (List.mem_cons_of_mem _ hy))
    rw [encL, List.length_append, List.length_cons, Nat.mul_succ]
    omega
theorem byteCells_app (a b : List UInt8) : Lib.byteCells (a ++ b) = Lib.byteCells a ++ Lib.byteCells b := by simp [Lib.byteCells]
theorem R_str {g cap : Nat} {w : World} {base : Nat} {l : List ByteArray} (h : Kd.R Kd.string 9 w base (fun _ => True) (.slice (some ⟨g, 0, none⟩) l.length cap) l) {i : Nat} (hi : i < l.length) : w.cell? ⟨g, i, none⟩ = some (.string (l.getD i ⟨#[]⟩)) := by
  have h1 := (Kd.R_cell (ByteArray.empty) h (i : Int) (by omega) (by omega)).1
  rw [Int.toNat_natCast] at h1
  refine h1.trans ?_
  congr 1
set_option maxHeartbeats 4000000 in
set_option maxRecDepth 100000 in
theorem enc_bad (A0 : Option Addr) (c0 : Nat) (l : List Int) (A1 : Option Addr) (c1 : Nat) (s : List Int) (w : World) (hr0 : Kd.C (Kd.int .i64) w A0 l.length l) (hc0 : l.length ≤ c0) (k : Nat) (hck : code_check.f k l = some 2) :
    Calls Try.prog 44 #[.slice A0 l.length c0, .slice A1 s.length c1] w fun e w' => e = .returned (.tuple #[.string ⟨#[]⟩, .int .i64 2]) ∧ Below w.heap.size w w' := by
  have HC := Lib.hid (code_check.calls k A0 c0 l 2 w hr0 hc0 hck)
  clear hr0 hck hc0
  go_enter Try.func44, Try.ntmps44
  go_wp2_with (go_at_call 55; refine HC.out.mono ?_; rintro e w1 ⟨rfl, hB1⟩)
  go_ret2
  exact ⟨rfl, hB1⟩
set_option maxHeartbeats 4000000 in
set_option maxRecDepth 100000 in
theorem enc_long (A0 : Option Addr) (c0 : Nat) (l : List Int) (A1 : Option Addr) (c1 : Nat) (s : List Int) (w : World) (hr0 : Kd.C (Kd.int .i64) w A0 l.length l) (hc0 : l.length ≤ c0) (k : Nat) (e : Int) (he : e = 0 ∨ e = 60) (hck : code_check.f k l = some e) (hs : 4096 < s.length) :
    Calls Try.prog 44 #[.slice A0 l.length c0, .slice A1 s.length c1] w fun e w' => e = .returned (.tuple #[.string ⟨#[]⟩, .int .i64 2]) ∧ Below w.heap.size w w' := by
  have HC := Lib.hid (code_check.calls k A0 c0 l e w hr0 hc0 hck)
  have hs' : (4096 : Int) < (s.length : Int) := by omega
  clear hr0 hck hc0
  rcases he with rfl | rfl
  all_goals
    go_enter Try.func44, Try.ntmps44
    go_wp2_with (go_at_call 55; refine HC.out.mono ?_; rintro e w1 ⟨rfl, hB1⟩)
    go_ret2
    exact ⟨rfl, hB1⟩
set_option maxHeartbeats 4000000 in
set_option maxRecDepth 100000 in
theorem enc_out (A0 : Option Addr) (c0 : Nat) (l : List Int) (A1 : Option Addr) (c1 : Nat) (s : List Int) (w : World) (hr0 : Kd.C (Kd.int .i64) w A0 l.length l) (hc0 : l.length ≤ c0) (hr1 : Kd.C (Kd.int .i64) w A1 s.length s) (hc1 : s.length ≤ c1) (k : Nat) (e : Int) (he : e = 0 ∨ e = 60) (hck : code_check.f k l = some e) (hs : s.length ≤ 4096)
    (hl : l.length ≤ 1000000) (hev : code_every.f s 0 ((l.length : Int) - 1) = some false) :
    Calls Try.prog 44 #[.slice A0 l.length c0, .slice A1 s.length c1] w fun e w' => e = .returned (.tuple #[.string ⟨#[]⟩, .int .i64 2]) ∧ Below w.heap.size w w' := by
  have HC := Lib.hid (code_check.calls k A0 c0 l e w hr0 hc0 hck)
  have HE : Hid (∀ W, Below w.heap.size w W → Calls Try.prog 66 #[.slice A1 s.length c1, .int .i64 0, .int .i64 ((l.length : Int) - 1)] W fun e w' => e = .returned (.bool false) ∧ Below W.heap.size W w') := Lib.hid (fun W hW => code_every.calls A1 c1 s 0 ((l.length : Int) - 1) false W (Kd.C_below hr1 hW) hc1 hev)
  have hs' : ¬ (4096 : Int) < (s.length : Int) := by omega
  clear hr0 hck hc0 hr1 hc1 hev
  rcases he with rfl | rfl
  all_goals
    go_enter Try.func44, Try.ntmps44
    go_wp2_with (first | (go_at_call 55; refine HC.out.mono ?_; rintro e w1 ⟨rfl, hB1⟩) | (go_at_call 66; refine (HE.out _ hB1).mono ?_; rintro e w2 ⟨rfl, hB2⟩))
    go_ret2
    exact ⟨rfl, hB1.trans (hB2.mono hB1.size)⟩
set_option maxHeartbeats 4000000 in
set_option maxRecDepth 100000 in
theorem enc_code (A0 : Option Addr) (c0 : Nat) (l : List Int) (A1 : Option Addr) (c1 : Nat) (s : List Int) (w : World) (hr0 : Kd.C (Kd.int .i64) w A0 l.length l) (hc0 : l.length ≤ c0) (hr1 : Kd.C (Kd.int .i64) w A1 s.length s) (hc1 : s.length ≤ c1) (k : Nat) (hck : code_check.f k l = some 60) (hs : s.length ≤ 4096)
    (hl : l.length ≤ 1000000) (hev : code_every.f s 0 ((l.length : Int) - 1) = some true) :
    Calls Try.prog 44 #[.slice A0 l.length c0, .slice A1 s.length c1] w fun e w' => e = .returned (.tuple #[.string ⟨#[]⟩, .int .i64 60]) ∧ Below w.heap.size w w' := by
  have HC := Lib.hid (code_check.calls k A0 c0 l 60 w hr0 hc0 hck)
  have HE : Hid (∀ W, Below w.heap.size w W → Calls Try.prog 66 #[.slice A1 s.length c1, .int .i64 0, .int .i64 ((l.length : Int) - 1)] W fun e w' => e = .returned (.bool true) ∧ Below W.heap.size W w') := Lib.hid (fun W hW => code_every.calls A1 c1 s 0 ((l.length : Int) - 1) true W (Kd.C_below hr1 hW) hc1 hev)
  have hs' : ¬ (4096 : Int) < (s.length : Int) := by omega
  clear hr0 hck hc0 hr1 hc1 hev
  go_enter Try.func44, Try.ntmps44
  go_wp2_with (first | (go_at_call 55; refine HC.out.mono ?_; rintro e w1 ⟨rfl, hB1⟩) | (go_at_call 66; refine (HE.out _ hB1).mono ?_; rintro e w2 ⟨rfl, hB2⟩))
  go_ret2
  exact ⟨rfl, hB1.trans (hB2.mono hB1.size)⟩
set_option maxHeartbeats 4000000 in
set_option maxRecDepth 100000 in
theorem enc_good (A0 : Option Addr) (c0 : Nat) (l : List Int) (A1 : Option Addr) (c1 : Nat) (s : List Int) (w : World) (hr0 : Kd.C (Kd.int .i64) w A0 l.length l) (hc0 : l.length ≤ c0) (hr1 : Kd.C (Kd.int .i64) w A1 s.length s) (hc1 : s.length ≤ c1) (k : Nat) (hck : code_check.f k l = some 0) (hs : s.length ≤ 4096)
    (hl0 : 1 ≤ l.length) (hl : l.length ≤ 1000000) (hev : code_every.f s 0 ((l.length : Int) - 1) = some true) (hev2 : okB 0 ((l.length : Int) - 1) s = true) (hw : code_words.f l = some (wordsL l)) (hwl : ∀ i, i < l.length → (wordN l i).length ≤ 32) :
    Calls Try.prog 44 #[.slice A0 l.length c0, .slice A1 s.length c1] w fun e w' => e = .returned (.tuple #[.string ⟨(encL (wordN l) s).toArray⟩, .int .i64 0]) ∧ Below w.heap.size w w' := by
  have HC := Lib.hid (code_check.calls k A0 c0 l 0 w hr0 hc0 hck)
  have HE : Hid (∀ W, Below w.heap.size w W → Calls Try.prog 66 #[.slice A1 s.length c1, .int .i64 0, .int .i64 ((l.length : Int) - 1)] W fun e w' => e = .returned (.bool true) ∧ Below W.heap.size W w') := Lib.hid (fun W hW => code_every.calls A1 c1 s 0 ((l.length : Int) - 1) true W (Kd.C_below hr1 hW) hc1 hev)
  have HW : Hid (∀ W, Below w.heap.size w W → Calls Try.prog 56 #[.slice A0 l.length c0] W fun e w' => ∃ v, e = .returned v ∧ Kd.R Kd.string 9 w' W.heap.size (fun _ => True) v (wordsL l) ∧ Below W.heap.size W w') := Lib.hid (fun W hW => code_words.calls A0 c0 l _ W (Kd.C_below hr0 hW) hc0 hw)
  have HRC : Hid (∀ W, Below w.heap.size w W → ∀ i, i < s.length → ∃ ad, A1 = some ad ∧ W.cell? (ad.add i) = some (.int .i64 (s.getD i 0))) := Lib.hid (fun W hW i hi => by
    obtain ⟨ad, vx, e1, e2, e3⟩ := at_int hr1 hW i hi
    exact ⟨ad, e1, by rw [List.getD_eq_getElem?_getD, e2.out]; exact e3⟩)
  have hs' : ¬ (4096 : Int) < (s.length : Int) := by omega
  have HIN : Hid (∀ i, i < s.length → ∃ j : Nat, s.getD i 0 = (j : Int) ∧ j < l.length) := Lib.hid (fun i hi => by
    have h1 := okB_iff.1 hev2 (s.getD i 0) (by rw [List.getD_eq_getElem?_getD, List.getElem?_eq_getElem hi]; exact List.getElem_mem hi)
    exact ⟨(s.getD i 0).toNat, by omega, by omega⟩)
  have HWL := Lib.hid hwl
  have HENC : Hid (∀ i, (encL (wordN l) (s.take i)).length ≤ 32 * 4096) := Lib.hid (fun i => by
    have h1 := encL_len (wd := wordN l) (m := 32) (s := s.take i) (fun x hx => by
      have h2 := okB_iff.1 hev2 x (List.mem_of_mem_take hx)
      exact hwl _ (by omega))
    have h3 : (s.take i).length ≤ 4096 := by rw [List.length_take]; omega
    have h4 : 32 * (s.take i).length ≤ 32 * 4096 := Nat.mul_le_mul_left _ h3
    omega)
  clear hr0 hck hc0 hr1 hc1 hev hev2 hw hwl
  go_enter Try.func44, Try.ntmps44
  go_upto_region 7 with (first | (go_at_call 55; refine HC.out.mono ?_; rintro e w1 ⟨rfl, hB1⟩) | (go_at_call 66; refine (HE.out _ hB1).mono ?_; rintro e w2 ⟨rfl, hB2⟩) | (go_at_call 56; refine (HW.out _ (hB1.trans (hB2.mono hB1.size))).mono ?_; rintro e w3 ⟨v, rfl, hR, hB3⟩))
  have hBA : Below w.heap.size w w3 := (hB1.trans (hB2.mono hB1.size)).trans (hB3.mono (Nat.le_trans hB1.size hB2.size))
  have hlen : (wordsL l).length = l.length := wordsL_len l
  obtain ⟨g, cap, rfl, hg1, hg2, -⟩ := Kd.R_form hR (by omega)
  have HWD : Hid (∀ W, Below w3.heap.size w3 W → ∀ i, i < l.length → W.cell? ⟨g, i, none⟩ = some (.string ((wordsL l).getD i ⟨#[]⟩))) := Lib.hid (fun W hW i hi => (hW.cell hg2).trans (R_str hR (by omega)))
  rw [hlen]
  have HBA := Lib.hid hBA
  clear hB1 hB2 hB3 hR hBA hlen HC HE HW
  have hB4 : Below w3.heap.size w3 (w3.alloc (Obj.cells #[Value.pointer none, Value.slice none 0 0] 89)) := (Below.refl _ _).alloc (Nat.le_refl _) _
  have hI : Lib.IsBuilder 89 5 w3.heap.size w3.heap.size (Lib.byteCells (encL (wordN l) (s.take 0))) (w3.alloc (Obj.cells #[Value.pointer none, Value.slice none 0 0] 89)) := by
    refine .inl ⟨Nat.le_refl _, .slice none 0 0, heap_alloc_new _ _, ?_, by simp [Value.ownBlock]⟩
    refine ⟨by simp [encL, Lib.byteCells], .inl ⟨rfl, by simp [encL, Lib.byteCells]⟩⟩
  have HI := Lib.hid hI
  have HB4 := Lib.hid hB4
  clear hI hB4
  go_wp2_with fail
  obtain ⟨w4, hw4⟩ : ∃ w4, w3.alloc (Obj.cells #[Value.pointer none, Value.slice none 0 0] 89) = w4 := ⟨_, rfl⟩
  rw [hw4] at HI HB4 ⊢
  clear hw4
  go_loopw [10, 35] (fun _ v35 wr => ∃ i : Nat, v35 = .int .i64 (i : Int) ∧ i ≤ s.length ∧ Hid (Lib.IsBuilder 89 5 w3.heap.size w3.heap.size (Lib.byteCells (encL (wordN l) (s.take i))) wr) ∧ Hid (Below w3.heap.size w3 wr)) (fun _ v35 _ => s.length - (intOf v35).toNat)
  case atStart => exact ⟨0, rfl, Nat.zero_le _, HI, HB4⟩
  case round =>
    rename World => wr
    obtain ⟨i, rfl, hi, HIi, HBi⟩ := hrel
    by_cases hlt : i < s.length
    · have hlt' : (i : Int) < (s.length : Int) := by omega
      have hi0 : (0 : Int) ≤ (i : Int) := by omega
      obtain ⟨ad, hA, hcell⟩ := HRC.out wr (HBA.out.trans (HBi.out.mono HBA.out.size)) i hlt
      subst hA
      obtain ⟨j, hj, hjl⟩ := HIN.out i hlt
      rw [hj] at hcell
      have hjl' : (j : Int) < (l.length : Int) := by omega
      have hj0 : (0 : Int) ≤ (j : Int) := by omega
      have hword := HWD.out wr HBi.out j hjl
      have hnx := encL_next (wordN l) s hlt
      rw [hj, Int.toNat_natCast] at hnx
      have hwz := HWL.out j hjl
      have hez := HENC.out i
      have hwd : wordN l j = ((wordsL l).getD j ⟨#[]⟩).data.toList := rfl
      obtain ⟨sw, hsw⟩ : ∃ sw, (wordsL l).getD j ⟨#[]⟩ = sw := ⟨_, rfl⟩
      rw [hsw] at hword hwd
      rw [hwd] at hnx hwz
      have hsz : sw.size = sw.data.toList.length := (by rw [Array.length_toList]; rfl)
      have HNX := Lib.hid hnx
      clear hnx hwd hsw
      go_wp2_with fail
      refine (WriteString_c _ _ _ sw _ HIi.out (by rw [byteCells_len]; omega) HBi.out.size).mono ?_
      rintro e w5 ⟨rfl, hI5, hB5⟩
      have HI5 : Hid (Lib.IsBuilder 89 5 w3.heap.size w3.heap.size (Lib.byteCells (encL (wordN l) (s.take (i + 1)))) w5) := by
        rw [HNX.out, byteCells_app]
        exact Lib.hid (.inr hI5)
      have HB5 := Lib.hid (HBi.out.trans hB5)
      clear hI5 hB5
      go_wp2_with fail
      exact ⟨⟨i + 1, by go_num, by omega, HI5, HB5⟩, by simp [intOf]; omega⟩
    · obtain rfl : i = s.length := by omega
      rw [List.take_length] at HIi
      go_wp2_with (go_at_call 68; refine (Builder_String_any _ _ _ _ HIi.out HBi.out.size).mono ?_; rintro e w5 ⟨rfl, hB5⟩)
      go_ret2
      exact ⟨rfl, HBA.out.trans ((HBi.out.trans hB5).mono HBA.out.size)⟩
end Go.Proofs.Ytcpojohpmcnnhaa.L

set_option linter.unusedVariables false
set_option linter.unusedSimpArgs false
namespace Go.Proofs.Ytcpojohpmcnnhaa.L
open Go.RowKit Go.Proofs.YtcpojohpmcnnhaaW.PrintWords Go.Proofs.YtcpojohpmcnnhaaW.PrintLast Go.Proofs.YtcpojohpmcnnhaaW.PrintMore
open Go.Proofs.Ytcpojohpmcnnhaa.PA Go.Proofs.Ytcpojohpmcnnhaa.A
theorem checkI_cases (l : List Int) : checkI l = 2 ∨ checkI l = 60 ∨ (checkI l = 0 ∧ (1 ≤ l.length ∧ l.length ≤ 64) ∧ okB 0 32 l = true ∧ sumI l ≤ 4294967296) := by
  unfold checkI
  by_cases h : (lenB l && okB 0 32 l) = true
  · rw [if_pos h]
    simp only [Bool.and_eq_true] at h
    by_cases h2 : sumI l > 4294967296
    · rw [if_pos h2]; exact .inr (.inl rfl)
    · rw [if_neg h2]; exact .inr (.inr ⟨rfl, lenB_iff.1 h.1, h.2, by omega⟩)
  · rw [if_neg h]; exact .inl rfl
def encR (l s : List Int) : ByteArray × Int := if checkI l = 2 ∨ 4096 < s.length ∨ okB 0 ((l.length : Int) - 1) s = false then (⟨#[]⟩, 2) else if checkI l = 60 then (⟨#[]⟩, 60) else (⟨(encL (wordN l) s).toArray⟩, 0)
theorem encode_c (A0 : Option Addr) (c0 : Nat) (l : List Int) (A1 : Option Addr) (c1 : Nat) (s : List Int) (w : World) (hr0 : Kd.C (Kd.int .i64) w A0 l.length l) (hc0 : l.length ≤ c0) (hr1 : Kd.C (Kd.int .i64) w A1 s.length s) (hc1 : s.length ≤ c1) (hl : l.length ≤ 1000000) :
    Calls Try.prog 44 #[.slice A0 l.length c0, .slice A1 s.length c1] w fun e w' => e = .returned (.tuple #[.string (encR l s).1, .int .i64 (encR l s).2]) ∧ Below w.heap.size w w' := by
  obtain ⟨k, hk⟩ := check_ev l hl
  have hk : code_check.f k l = some (checkI l) := hk k (Nat.le_refl _)
  have hall := every_all s 0 ((l.length : Int) - 1)
  unfold encR
  rcases checkI_cases l with h | h | ⟨h, h1, h2, h3⟩
  · rw [if_pos (.inl h)]
    exact enc_bad A0 c0 l A1 c1 s w hr0 hc0 k (by rw [hk, h])
  · by_cases h4 : 4096 < s.length
    · rw [if_pos (.inr (.inl h4))]
      exact enc_long A0 c0 l A1 c1 s w hr0 hc0 k 60 (.inr rfl) (by rw [hk, h]) h4
    · by_cases h5 : okB 0 ((l.length : Int) - 1) s = false
      · rw [if_pos (.inr (.inr h5))]
        exact enc_out A0 c0 l A1 c1 s w hr0 hc0 hr1 hc1 k 60 (.inr rfl) (by rw [hk, h]) (by omega) hl (by rw [hall, h5])
      · have h5' : okB 0 ((l.length : Int) - 1) s = true := by simpa using h5
        rw [if_neg (by rw [h]; simp [h4, h5']), if_pos h]
        exact enc_code A0 c0 l A1 c1 s w hr0 hc0 hr1 hc1 k (by rw [hk, h]) (by omega) hl (by rw [hall, h5'])
  · by_cases h4 : 4096 < s.length
    · rw [if_pos (.inr (.inl h4))]
      exact enc_long A0 c0 l A1 c1 s w hr0 hc0 k 0 (.inl rfl) (by rw [hk, h]) h4
    · by_cases h5 : okB 0 ((l.length : Int) - 1) s = false
      · rw [if_pos (.inr (.inr h5))]
        exact enc_out A0 c0 l A1 c1 s w hr0 hc0 hr1 hc1 k 0 (.inl rfl) (by rw [hk, h]) (by omega) hl (by rw [hall, h5])
      · have h5' : okB 0 ((l.length : Int) - 1) s = true := by simpa using h5
        rw [if_neg (by rw [h]; simp [h4, h5']), if_neg (by rw [h]; decide)]
        refine enc_good A0 c0 l A1 c1 s w hr0 hc0 hr1 hc1 k (by rw [hk, h]) (by omega) h1.1 hl (by rw [hall, h5']) h5' (codeWords_f h1.1 h1.2 h2 h3) (fun i hi => ?_)
        have e1 := wordN_len h2 hi
        have e2 := ok_at h2 hi
        omega
end Go.Proofs.Ytcpojohpmcnnhaa.L
namespace Go.Proofs.Ytcpojohpmcnnhaa.PA
open Go.RowKit Go.Proofs.YtcpojohpmcnnhaaW.PrintWords Go.Proofs.YtcpojohpmcnnhaaW.PrintLast Go.Proofs.YtcpojohpmcnnhaaW.PrintMore
def code_Encode.f (l0 : List Int) (l1 : List Int) : Option (ByteArray × Int) := if l0.length ≤ 1000000 then some (L.encR l0 l1) else none
theorem code_Encode.calls (A0 : Option Addr) (c0 : Nat) (l0 : List Int) (A1 : Option Addr) (c1 : Nat) (l1 : List Int) (r1 : ByteArray) (r2 : Int) (w : World) (hr0 : Kd.C (Kd.int .i64) w A0 l0.length l0) (hc0 : l0.length ≤ c0) (hr1 : Kd.C (Kd.int .i64) w A1 l1.length l1) (hc1 : l1.length ≤ c1) (h : code_Encode.f l0 l1 = some (r1, r2)) :
    Calls Try.prog 44 #[.slice A0 l0.length c0, .slice A1 l1.length c1] w fun e w' => e = .returned (.tuple #[.string r1, .int .i64 r2]) ∧ Below w.heap.size w w' := by
  unfold code_Encode.f at h
  split at h
  · rename_i hl
    have e := Option.some.inj h
    have hc := L.encode_c A0 c0 l0 A1 c1 l1 w hr0 hc0 hr1 hc1 hl
    rw [e] at hc
    exact hc
  · cases h
end Go.Proofs.Ytcpojohpmcnnhaa.PA
