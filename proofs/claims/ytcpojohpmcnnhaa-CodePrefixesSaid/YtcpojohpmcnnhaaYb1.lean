/- For all weights, symbols and limits the statement CodePrefixes holds: Go's function returns true and changes nothing that existed. -/
import Derived.Deep.DeepCutAuto
import Derived.SizedLaws
import Derived.ChangeSlices
import Derived.Test.YtcpojohpmcnnhaaRows
import Derived.WalkKit
import Derived.ProofKit
import Derived.OpenShut
import Derived.ShutString
import Derived.ChangeOld
import Derived.Below
import Derived.Deep.Slices
import Derived.Deep.Strs
import Derived.Lib.SmallJoins
import Derived.Test.YtcpojohpmcnnhaaYa8
set_option linter.unusedSimpArgs false
set_option linter.unusedVariables false

set_option linter.unusedVariables false
set_option linter.unusedSimpArgs false
namespace Go.Proofs.Ytcpojohpmcnnhaa.L
open Go.RowKit Go.Proofs.YtcpojohpmcnnhaaW.PrintWords Go.Proofs.YtcpojohpmcnnhaaW.PrintLast Go.Proofs.YtcpojohpmcnnhaaW.PrintMore
open Go.Proofs.Ytcpojohpmcnnhaa.PA Go.Proofs.Ytcpojohpmcnnhaa.A
theorem wpStill_none {P : Program} {ops : Array Oper} {w : World} {Q : Act → Prop} {rest : List Oper} {o : Oper} {a : Act} {j : Nat} {want : Bool} (hg : o.guard = some (j, want)) (hy : yielded ops a.tmps j = none) (h : wpStill P ops w Q rest (a.put o.dst undef)) : wpStill P ops w Q (o :: rest) a := by
  have : Region.wanted o (yielded ops a.tmps) = false := by simp only [Region.wanted, hg, hy]; rfl
  unfold wpStill
  rw [this]
  exact h
set_option maxHeartbeats 8000000 in
set_option maxRecDepth 100000 in
theorem reg0 {ops : Array Oper} (hops : opsIn (Try.f18.body.getD .skip) 15 = some ops) {n i  g8 g11 cap8 cap11 : Nat} (ci cj : ByteArray) (hin : i < n) (b1 : ((i : Int) != (i : Int)) = false) {x0 x1 x2 x3 x4 x5 x6 x7 x9 x10 x12 x15 x16 x17 x18 x19 x20 x21 x22 x23 x24 x25 x26 x27 x28 x29 x30 x31 x32 x33 x34 x35 x36 x37 x38 x39 x40 x41 x42 x43 x44 x45 x46 x47 x48 x49 x50 x51 x52 x53 x54 x55 x56 x57 x58 x59 x60 x61 x62 x63 x64 x65 x66 x67 x68 x69 x70 x71 x72 x73 x74 x75 x76 x77 x78 x79 x80 x81 x82 x83 x84 x85 x86 x87 x88 x89 x90 x91 x92 x93 x94 x95 x96 x97 x98 x99 x100 x101 x102 x103 x104 x105 x106 x107 x108 x109 x110 x111 x112 x113 x114 x115 x116 x117 x118 x119 x120 x121 x122 x123 x124 x125 x126 x127 x128 x129 x130 x131 x132 x133 x134 x135 x136 x137 x138 x139 x140 x141 x142 x143 x144 x145 x146 x147 x148 x149 x150 x151 x152 x153 x154 x155 x156 x157 x158 x159 x160 x161 x162 x163 x164 x165 x166 x167 x168 x169 x170 x171 x172 x173 x174 x175 x176 x177 x178 x179 x180 x181 x182 x183 x184 x185 x186 x187 x188 x189 x190 x191 x192 x193 x194 x195 x196 x197 x198 x199 x200 x201 x202 x203 x204 x205 x206 x207 x208 x209 : Value} {Q : Exit → Act → World → Prop} {w : World}
    (hc : ∀ W, R.Keeps [] w W → W.cell? ⟨g11, i, none⟩ = some (.string ci) ∧ W.cell? ⟨g11, i, none⟩ = some (.string cj) ∧ W.cell? ⟨g8, i, none⟩ = some (.int .i64 (ci.size : Int)) ∧ W.cell? ⟨g8, i, none⟩ = some (.int .i64 (cj.size : Int)))
    (hQp : ∀ c a (d : Tmp) v w, Q (.panic c) (a.put (some d) v) w → Q (.panic c) a w)
    (hQ : ∀ y88 y89 y90 y91 y92 y93 y94 y95 y96 y97 y98 y99 y100 y101 y102 y103 y104 y105 y106 y107 y108 y109 y110 y111 y112 y113 y114 y115 y116 y117 y118 y119 y120 y121 y122 y123 y124 y125 y126 y127 y128 y129 y130 y131 y132 y133 y134 y135 y136 y137 y138 y139 y140 y141 y142 y143 y144 y145 y146 y147 y148 y149 y150 y151 y152 y153 y154 y155 y156 y157 : Value, Q .normal (⟨#[x0, x1, x2, x3, x4, x5, x6, x7, .slice (some ⟨g8, 0, none⟩) n cap8, x9, x10, .slice (some ⟨g11, 0, none⟩) n cap11, x12, .int .i64 (i : Int), .int .i64 (i : Int), x15, x16, x17, x18, x19, x20, x21, x22, x23, x24, x25, x26, x27, x28, x29, x30, x31, x32, x33, x34, x35, x36, x37, x38, x39, x40, x41, x42, x43, x44, x45, x46, x47, x48, x49, x50, x51, x52, x53, x54, x55, x56, x57, x58, x59, x60, x61, x62, x63, x64, x65, x66, x67, x68, x69, x70, x71, x72, x73, x74, x75, x76, x77, x78, x79, x80, x81, x82, x83, x84, x85, x86, x87, y88, y89, y90, y91, y92, y93, y94, y95, y96, y97, y98, y99, y100, y101, y102, y103, y104, y105, y106, y107, y108, y109, y110, y111, y112, y113, y114, y115, y116, y117, y118, y119, y120, y121, y122, y123, y124, y125, y126, y127, y128, y129, y130, y131, y132, y133, y134, y135, y136, y137, y138, y139, y140, y141, y142, y143, y144, y145, y146, y147, y148, y149, y150, y151, y152, y153, y154, y155, y156, y157, .bool false, x159, x160, x161, x162, x163, x164, x165, x166, x167, x168, x169, x170, x171, x172, x173, x174, x175, x176, x177, x178, x179, x180, x181, x182, x183, x184, x185, x186, x187, x188, x189, x190, x191, x192, x193, x194, x195, x196, x197, x198, x199, x200, x201, x202, x203, x204, x205, x206, x207, x208, x209], []⟩ : Act) w.drew) :
    (Code.region 15 ops true).wp Try.prog Q (⟨#[x0, x1, x2, x3, x4, x5, x6, x7, .slice (some ⟨g8, 0, none⟩) n cap8, x9, x10, .slice (some ⟨g11, 0, none⟩) n cap11, x12, .int .i64 (i : Int), .int .i64 (i : Int), x15, x16, x17, x18, x19, x20, x21, x22, x23, x24, x25, x26, x27, x28, x29, x30, x31, x32, x33, x34, x35, x36, x37, x38, x39, x40, x41, x42, x43, x44, x45, x46, x47, x48, x49, x50, x51, x52, x53, x54, x55, x56, x57, x58, x59, x60, x61, x62, x63, x64, x65, x66, x67, x68, x69, x70, x71, x72, x73, x74, x75, x76, x77, x78, x79, x80, x81, x82, x83, x84, x85, x86, x87, x88, x89, x90, x91, x92, x93, x94, x95, x96, x97, x98, x99, x100, x101, x102, x103, x104, x105, x106, x107, x108, x109, x110, x111, x112, x113, x114, x115, x116, x117, x118, x119, x120, x121, x122, x123, x124, x125, x126, x127, x128, x129, x130, x131, x132, x133, x134, x135, x136, x137, x138, x139, x140, x141, x142, x143, x144, x145, x146, x147, x148, x149, x150, x151, x152, x153, x154, x155, x156, x157, x158, x159, x160, x161, x162, x163, x164, x165, x166, x167, x168, x169, x170, x171, x172, x173, x174, x175, x176, x177, x178, x179, x180, x181, x182, x183, x184, x185, x186, x187, x188, x189, x190, x191, x192, x193, x194, x195, x196, x197, x198, x199, x200, x201, x202, x203, x204, x205, x206, x207, x208, x209], []⟩ : Act) w := by
  have hin' : (i : Int) < (n : Int) := by omega
  have hi0 : (0 : Int) ≤ (i : Int) := by omega
  have hA0 : (0 : Int) ≤ (ci.size : Int) := by omega
  have CE := Lib.hid hc
  have HQ := Lib.hid hQ
  clear hc hQ
  change some _ = some _ at hops
  obtain rfl := Option.some.inj hops
  apply R.wp_region_text [0, 1, 2, 3, 4, 5, 6, 7, 8, 9, 10, 11, 12, 13, 14, 15, 16, 17, 18, 19, 20, 21, 22, 23, 24, 25, 26, 27, 28, 29, 30, 31, 32, 33, 34, 35, 36, 37, 38, 39, 40, 41, 42, 43, 44, 45, 46, 47, 48, 49, 50, 51, 52, 53, 54, 55, 56, 57, 58, 59, 60, 61, 62, 63, 64, 65, 66, 67, 68, 69, 70] [] 71 (R.Keeps [] w)
  case hm => kernel_rfl
  case hB => kernel_rfl
  case hd => rfl
  case hQ => exact hQp
  case hS => exact (R.Keeps.refl _ _).drew
  case hF =>
    intro w' hS
    obtain ⟨z1, z2, z3, z4⟩ := CE.out w' hS
    clear hS
    simp only [List.append_eq, List.cons_append, List.nil_append]
    simp only [R.pickC, List.filterMap_cons, List.getElem?_toArray, List.getElem?_cons_zero, List.getElem?_cons_succ, List.filterMap_nil]
    (with_reducible refine R.wpStill_plain rfl (fun K hK => ?_)); go_simp; with_reducible refine hK _ ?_; clear hK K
    (with_reducible refine R.wpStill_plain rfl (fun K hK => ?_)); go_simp; with_reducible refine hK _ ?_; clear hK K
    (with_reducible refine R.wpStill_plain rfl (fun K hK => ?_)); go_simp; with_reducible refine hK _ ?_; clear hK K
    (with_reducible refine R.wpStill_plain rfl (fun K hK => ?_)); go_simp; with_reducible refine hK _ ?_; clear hK K
    (with_reducible refine R.wpStill_no (b := false) rfl ?hy R.bft ?_); (case hy => exact rfl); simp only [Act.put, List.setIfInBounds_toArray, List.set_cons_zero, List.set_cons_succ]
    (with_reducible refine R.wpStill_no (b := false) rfl ?hy R.bft ?_); (case hy => exact rfl); simp only [Act.put, List.setIfInBounds_toArray, List.set_cons_zero, List.set_cons_succ]
    (with_reducible refine R.wpStill_no (b := false) rfl ?hy R.bft ?_); (case hy => exact rfl); simp only [Act.put, List.setIfInBounds_toArray, List.set_cons_zero, List.set_cons_succ]
    (with_reducible refine R.wpStill_no (b := false) rfl ?hy R.bft ?_); (case hy => exact rfl); simp only [Act.put, List.setIfInBounds_toArray, List.set_cons_zero, List.set_cons_succ]
    (with_reducible refine R.wpStill_no (b := false) rfl ?hy R.bft ?_); (case hy => exact rfl); simp only [Act.put, List.setIfInBounds_toArray, List.set_cons_zero, List.set_cons_succ]
    (with_reducible refine R.wpStill_no (b := false) rfl ?hy R.bft ?_); (case hy => exact rfl); simp only [Act.put, List.setIfInBounds_toArray, List.set_cons_zero, List.set_cons_succ]
    (with_reducible refine R.wpStill_no (b := false) rfl ?hy R.bft ?_); (case hy => exact rfl); simp only [Act.put, List.setIfInBounds_toArray, List.set_cons_zero, List.set_cons_succ]
    (with_reducible refine R.wpStill_no (b := false) rfl ?hy R.bft ?_); (case hy => exact rfl); simp only [Act.put, List.setIfInBounds_toArray, List.set_cons_zero, List.set_cons_succ]
    (with_reducible refine R.wpStill_no (b := false) rfl ?hy R.bft ?_); (case hy => exact rfl); simp only [Act.put, List.setIfInBounds_toArray, List.set_cons_zero, List.set_cons_succ]
    (with_reducible refine R.wpStill_no (b := false) rfl ?hy R.bft ?_); (case hy => exact rfl); simp only [Act.put, List.setIfInBounds_toArray, List.set_cons_zero, List.set_cons_succ]
    (with_reducible refine R.wpStill_no (b := false) rfl ?hy R.bft ?_); (case hy => exact rfl); simp only [Act.put, List.setIfInBounds_toArray, List.set_cons_zero, List.set_cons_succ]
    (with_reducible refine R.wpStill_no (b := false) rfl ?hy R.bft ?_); (case hy => exact rfl); simp only [Act.put, List.setIfInBounds_toArray, List.set_cons_zero, List.set_cons_succ]
    (with_reducible refine wpStill_none rfl ?hy ?_); (case hy => exact rfl); simp only [Act.put, List.setIfInBounds_toArray, List.set_cons_zero, List.set_cons_succ]
    (with_reducible refine wpStill_none rfl ?hy ?_); (case hy => exact rfl); simp only [Act.put, List.setIfInBounds_toArray, List.set_cons_zero, List.set_cons_succ]
    (with_reducible refine wpStill_none rfl ?hy ?_); (case hy => exact rfl); simp only [Act.put, List.setIfInBounds_toArray, List.set_cons_zero, List.set_cons_succ]
    (with_reducible refine wpStill_none rfl ?hy ?_); (case hy => exact rfl); simp only [Act.put, List.setIfInBounds_toArray, List.set_cons_zero, List.set_cons_succ]
    (with_reducible refine wpStill_none rfl ?hy ?_); (case hy => exact rfl); simp only [Act.put, List.setIfInBounds_toArray, List.set_cons_zero, List.set_cons_succ]
    (with_reducible refine wpStill_none rfl ?hy ?_); (case hy => exact rfl); simp only [Act.put, List.setIfInBounds_toArray, List.set_cons_zero, List.set_cons_succ]
    (with_reducible refine wpStill_none rfl ?hy ?_); (case hy => exact rfl); simp only [Act.put, List.setIfInBounds_toArray, List.set_cons_zero, List.set_cons_succ]
    (with_reducible refine wpStill_none rfl ?hy ?_); (case hy => exact rfl); simp only [Act.put, List.setIfInBounds_toArray, List.set_cons_zero, List.set_cons_succ]
    (with_reducible refine wpStill_none rfl ?hy ?_); (case hy => exact rfl); simp only [Act.put, List.setIfInBounds_toArray, List.set_cons_zero, List.set_cons_succ]
    (with_reducible refine wpStill_none rfl ?hy ?_); (case hy => exact rfl); simp only [Act.put, List.setIfInBounds_toArray, List.set_cons_zero, List.set_cons_succ]
    (with_reducible refine wpStill_none rfl ?hy ?_); (case hy => exact rfl); simp only [Act.put, List.setIfInBounds_toArray, List.set_cons_zero, List.set_cons_succ]
    (with_reducible refine wpStill_none rfl ?hy ?_); (case hy => exact rfl); simp only [Act.put, List.setIfInBounds_toArray, List.set_cons_zero, List.set_cons_succ]
    (with_reducible refine wpStill_none rfl ?hy ?_); (case hy => exact rfl); simp only [Act.put, List.setIfInBounds_toArray, List.set_cons_zero, List.set_cons_succ]
    (with_reducible refine wpStill_none rfl ?hy ?_); (case hy => exact rfl); simp only [Act.put, List.setIfInBounds_toArray, List.set_cons_zero, List.set_cons_succ]
    (with_reducible refine wpStill_none rfl ?hy ?_); (case hy => exact rfl); simp only [Act.put, List.setIfInBounds_toArray, List.set_cons_zero, List.set_cons_succ]
    (with_reducible refine R.wpStill_no (b := false) rfl ?hy R.bft ?_); (case hy => exact rfl); simp only [Act.put, List.setIfInBounds_toArray, List.set_cons_zero, List.set_cons_succ]
    (with_reducible refine R.wpStill_no (b := false) rfl ?hy R.bft ?_); (case hy => exact rfl); simp only [Act.put, List.setIfInBounds_toArray, List.set_cons_zero, List.set_cons_succ]
    (with_reducible refine wpStill_none rfl ?hy ?_); (case hy => exact rfl); simp only [Act.put, List.setIfInBounds_toArray, List.set_cons_zero, List.set_cons_succ]
    (with_reducible refine wpStill_none rfl ?hy ?_); (case hy => exact rfl); simp only [Act.put, List.setIfInBounds_toArray, List.set_cons_zero, List.set_cons_succ]
    (with_reducible refine wpStill_none rfl ?hy ?_); (case hy => exact rfl); simp only [Act.put, List.setIfInBounds_toArray, List.set_cons_zero, List.set_cons_succ]
    (with_reducible refine wpStill_none rfl ?hy ?_); (case hy => exact rfl); simp only [Act.put, List.setIfInBounds_toArray, List.set_cons_zero, List.set_cons_succ]
    (with_reducible refine wpStill_none rfl ?hy ?_); (case hy => exact rfl); simp only [Act.put, List.setIfInBounds_toArray, List.set_cons_zero, List.set_cons_succ]
    (with_reducible refine wpStill_none rfl ?hy ?_); (case hy => exact rfl); simp only [Act.put, List.setIfInBounds_toArray, List.set_cons_zero, List.set_cons_succ]
    (with_reducible refine wpStill_none rfl ?hy ?_); (case hy => exact rfl); simp only [Act.put, List.setIfInBounds_toArray, List.set_cons_zero, List.set_cons_succ]
    (with_reducible refine wpStill_none rfl ?hy ?_); (case hy => exact rfl); simp only [Act.put, List.setIfInBounds_toArray, List.set_cons_zero, List.set_cons_succ]
    (with_reducible refine wpStill_none rfl ?hy ?_); (case hy => exact rfl); simp only [Act.put, List.setIfInBounds_toArray, List.set_cons_zero, List.set_cons_succ]
    (with_reducible refine wpStill_none rfl ?hy ?_); (case hy => exact rfl); simp only [Act.put, List.setIfInBounds_toArray, List.set_cons_zero, List.set_cons_succ]
    (with_reducible refine wpStill_none rfl ?hy ?_); (case hy => exact rfl); simp only [Act.put, List.setIfInBounds_toArray, List.set_cons_zero, List.set_cons_succ]
    (with_reducible refine wpStill_none rfl ?hy ?_); (case hy => exact rfl); simp only [Act.put, List.setIfInBounds_toArray, List.set_cons_zero, List.set_cons_succ]
    (with_reducible refine wpStill_none rfl ?hy ?_); (case hy => exact rfl); simp only [Act.put, List.setIfInBounds_toArray, List.set_cons_zero, List.set_cons_succ]
    (with_reducible refine wpStill_none rfl ?hy ?_); (case hy => exact rfl); simp only [Act.put, List.setIfInBounds_toArray, List.set_cons_zero, List.set_cons_succ]
    (with_reducible refine wpStill_none rfl ?hy ?_); (case hy => exact rfl); simp only [Act.put, List.setIfInBounds_toArray, List.set_cons_zero, List.set_cons_succ]
    (with_reducible refine wpStill_none rfl ?hy ?_); (case hy => exact rfl); simp only [Act.put, List.setIfInBounds_toArray, List.set_cons_zero, List.set_cons_succ]
    (with_reducible refine wpStill_none rfl ?hy ?_); (case hy => exact rfl); simp only [Act.put, List.setIfInBounds_toArray, List.set_cons_zero, List.set_cons_succ]
    (with_reducible refine wpStill_none rfl ?hy ?_); (case hy => exact rfl); simp only [Act.put, List.setIfInBounds_toArray, List.set_cons_zero, List.set_cons_succ]
    (with_reducible refine wpStill_none rfl ?hy ?_); (case hy => exact rfl); simp only [Act.put, List.setIfInBounds_toArray, List.set_cons_zero, List.set_cons_succ]
    (with_reducible refine wpStill_none rfl ?hy ?_); (case hy => exact rfl); simp only [Act.put, List.setIfInBounds_toArray, List.set_cons_zero, List.set_cons_succ]
    (with_reducible refine wpStill_none rfl ?hy ?_); (case hy => exact rfl); simp only [Act.put, List.setIfInBounds_toArray, List.set_cons_zero, List.set_cons_succ]
    (with_reducible refine wpStill_none rfl ?hy ?_); (case hy => exact rfl); simp only [Act.put, List.setIfInBounds_toArray, List.set_cons_zero, List.set_cons_succ]
    (with_reducible refine wpStill_none rfl ?hy ?_); (case hy => exact rfl); simp only [Act.put, List.setIfInBounds_toArray, List.set_cons_zero, List.set_cons_succ]
    (with_reducible refine wpStill_none rfl ?hy ?_); (case hy => exact rfl); simp only [Act.put, List.setIfInBounds_toArray, List.set_cons_zero, List.set_cons_succ]
    (with_reducible refine wpStill_none rfl ?hy ?_); (case hy => exact rfl); simp only [Act.put, List.setIfInBounds_toArray, List.set_cons_zero, List.set_cons_succ]
    (with_reducible refine wpStill_none rfl ?hy ?_); (case hy => exact rfl); simp only [Act.put, List.setIfInBounds_toArray, List.set_cons_zero, List.set_cons_succ]
    (with_reducible refine wpStill_none rfl ?hy ?_); (case hy => exact rfl); simp only [Act.put, List.setIfInBounds_toArray, List.set_cons_zero, List.set_cons_succ]
    (with_reducible refine wpStill_none rfl ?hy ?_); (case hy => exact rfl); simp only [Act.put, List.setIfInBounds_toArray, List.set_cons_zero, List.set_cons_succ]
    (with_reducible refine wpStill_none rfl ?hy ?_); (case hy => exact rfl); simp only [Act.put, List.setIfInBounds_toArray, List.set_cons_zero, List.set_cons_succ]
    (with_reducible refine wpStill_none rfl ?hy ?_); (case hy => exact rfl); simp only [Act.put, List.setIfInBounds_toArray, List.set_cons_zero, List.set_cons_succ]
    (with_reducible refine wpStill_none rfl ?hy ?_); (case hy => exact rfl); simp only [Act.put, List.setIfInBounds_toArray, List.set_cons_zero, List.set_cons_succ]
    (with_reducible refine wpStill_none rfl ?hy ?_); (case hy => exact rfl); simp only [Act.put, List.setIfInBounds_toArray, List.set_cons_zero, List.set_cons_succ]
    (with_reducible refine wpStill_none rfl ?hy ?_); (case hy => exact rfl); simp only [Act.put, List.setIfInBounds_toArray, List.set_cons_zero, List.set_cons_succ]
    (with_reducible refine wpStill_none rfl ?hy ?_); (case hy => exact rfl); simp only [Act.put, List.setIfInBounds_toArray, List.set_cons_zero, List.set_cons_succ]
    (with_reducible refine wpStill_none rfl ?hy ?_); (case hy => exact rfl); simp only [Act.put, List.setIfInBounds_toArray, List.set_cons_zero, List.set_cons_succ]
    (with_reducible refine wpStill_none rfl ?hy ?_); (case hy => exact rfl); simp only [Act.put, List.setIfInBounds_toArray, List.set_cons_zero, List.set_cons_succ]
    (with_reducible refine R.wpStill_no (b := false) rfl ?hy R.bft ?_); (case hy => exact rfl); simp only [Act.put, List.setIfInBounds_toArray, List.set_cons_zero, List.set_cons_succ]
    (with_reducible refine R.wpStill_plain rfl (fun K hK => ?_)); go_simp; with_reducible refine hK _ ?_; clear hK K
    exact wpStill_nil rfl
  case hC =>
    simp only [R.chainOf, List.getElem?_toArray, List.getElem?_cons_zero, List.getElem?_cons_succ, Nat.reduceBNe, Bool.and_true, Bool.and_false, Bool.false_and]
    refine R.wpSeq_nil ?_
    exact HQ.out _ _ _ _ _ _ _ _ _ _ _ _ _ _ _ _ _ _ _ _ _ _ _ _ _ _ _ _ _ _ _ _ _ _ _ _ _ _ _ _ _ _ _ _ _ _ _ _ _ _ _ _ _ _ _ _ _ _ _ _ _ _ _ _ _ _ _ _ _ _
set_option maxHeartbeats 8000000 in
set_option maxRecDepth 100000 in
theorem reg1 {ops : Array Oper} (hops : opsIn (Try.f18.body.getD .skip) 15 = some ops) {n i j g8 g11 cap8 cap11 : Nat} (ci cj : ByteArray) (hin : i < n) (hjn : j < n) (b1 : ((i : Int) != (j : Int)) = true) (hA : ci.size ≤ cj.size) (hA' : (ci.size : Int) ≤ (cj.size : Int)) (d1 : decide ((ci.size : Int) ≤ (cj.size : Int)) = true) (b2 : ((cj.extract 0 ci.size).toList == ci.toList) = false) (hlt : ci.size < cj.size) (b3 : decide ((ci.size : Int) < (cj.size : Int)) = true) (b4 : Op.bytesLess ci.toList cj.toList = true) {x0 x1 x2 x3 x4 x5 x6 x7 x9 x10 x12 x15 x16 x17 x18 x19 x20 x21 x22 x23 x24 x25 x26 x27 x28 x29 x30 x31 x32 x33 x34 x35 x36 x37 x38 x39 x40 x41 x42 x43 x44 x45 x46 x47 x48 x49 x50 x51 x52 x53 x54 x55 x56 x57 x58 x59 x60 x61 x62 x63 x64 x65 x66 x67 x68 x69 x70 x71 x72 x73 x74 x75 x76 x77 x78 x79 x80 x81 x82 x83 x84 x85 x86 x87 x88 x89 x90 x91 x92 x93 x94 x95 x96 x97 x98 x99 x100 x101 x102 x103 x104 x105 x106 x107 x108 x109 x110 x111 x112 x113 x114 x115 x116 x117 x118 x119 x120 x121 x122 x123 x124 x125 x126 x127 x128 x129 x130 x131 x132 x133 x134 x135 x136 x137 x138 x139 x140 x141 x142 x143 x144 x145 x146 x147 x148 x149 x150 x151 x152 x153 x154 x155 x156 x157 x158 x159 x160 x161 x162 x163 x164 x165 x166 x167 x168 x169 x170 x171 x172 x173 x174 x175 x176 x177 x178 x179 x180 x181 x182 x183 x184 x185 x186 x187 x188 x189 x190 x191 x192 x193 x194 x195 x196 x197 x198 x199 x200 x201 x202 x203 x204 x205 x206 x207 x208 x209 : Value} {Q : Exit → Act → World → Prop} {w : World}
    (hc : ∀ W, R.Keeps [] w W → W.cell? ⟨g11, i, none⟩ = some (.string ci) ∧ W.cell? ⟨g11, j, none⟩ = some (.string cj) ∧ W.cell? ⟨g8, i, none⟩ = some (.int .i64 (ci.size : Int)) ∧ W.cell? ⟨g8, j, none⟩ = some (.int .i64 (cj.size : Int)))
    (hQp : ∀ c a (d : Tmp) v w, Q (.panic c) (a.put (some d) v) w → Q (.panic c) a w)
    (hQ : ∀ y88 y89 y90 y91 y92 y93 y94 y95 y96 y97 y98 y99 y100 y101 y102 y103 y104 y105 y106 y107 y108 y109 y110 y111 y112 y113 y114 y115 y116 y117 y118 y119 y120 y121 y122 y123 y124 y125 y126 y127 y128 y129 y130 y131 y132 y133 y134 y135 y136 y137 y138 y139 y140 y141 y142 y143 y144 y145 y146 y147 y148 y149 y150 y151 y152 y153 y154 y155 y156 y157 : Value, Q .normal (⟨#[x0, x1, x2, x3, x4, x5, x6, x7, .slice (some ⟨g8, 0, none⟩) n cap8, x9, x10, .slice (some ⟨g11, 0, none⟩) n cap11, x12, .int .i64 (i : Int), .int .i64 (j : Int), x15, x16, x17, x18, x19, x20, x21, x22, x23, x24, x25, x26, x27, x28, x29, x30, x31, x32, x33, x34, x35, x36, x37, x38, x39, x40, x41, x42, x43, x44, x45, x46, x47, x48, x49, x50, x51, x52, x53, x54, x55, x56, x57, x58, x59, x60, x61, x62, x63, x64, x65, x66, x67, x68, x69, x70, x71, x72, x73, x74, x75, x76, x77, x78, x79, x80, x81, x82, x83, x84, x85, x86, x87, y88, y89, y90, y91, y92, y93, y94, y95, y96, y97, y98, y99, y100, y101, y102, y103, y104, y105, y106, y107, y108, y109, y110, y111, y112, y113, y114, y115, y116, y117, y118, y119, y120, y121, y122, y123, y124, y125, y126, y127, y128, y129, y130, y131, y132, y133, y134, y135, y136, y137, y138, y139, y140, y141, y142, y143, y144, y145, y146, y147, y148, y149, y150, y151, y152, y153, y154, y155, y156, y157, .bool false, x159, x160, x161, x162, x163, x164, x165, x166, x167, x168, x169, x170, x171, x172, x173, x174, x175, x176, x177, x178, x179, x180, x181, x182, x183, x184, x185, x186, x187, x188, x189, x190, x191, x192, x193, x194, x195, x196, x197, x198, x199, x200, x201, x202, x203, x204, x205, x206, x207, x208, x209], []⟩ : Act) w.drew) :
    (Code.region 15 ops true).wp Try.prog Q (⟨#[x0, x1, x2, x3, x4, x5, x6, x7, .slice (some ⟨g8, 0, none⟩) n cap8, x9, x10, .slice (some ⟨g11, 0, none⟩) n cap11, x12, .int .i64 (i : Int), .int .i64 (j : Int), x15, x16, x17, x18, x19, x20, x21, x22, x23, x24, x25, x26, x27, x28, x29, x30, x31, x32, x33, x34, x35, x36, x37, x38, x39, x40, x41, x42, x43, x44, x45, x46, x47, x48, x49, x50, x51, x52, x53, x54, x55, x56, x57, x58, x59, x60, x61, x62, x63, x64, x65, x66, x67, x68, x69, x70, x71, x72, x73, x74, x75, x76, x77, x78, x79, x80, x81, x82, x83, x84, x85, x86, x87, x88, x89, x90, x91, x92, x93, x94, x95, x96, x97, x98, x99, x100, x101, x102, x103, x104, x105, x106, x107, x108, x109, x110, x111, x112, x113, x114, x115, x116, x117, x118, x119, x120, x121, x122, x123, x124, x125, x126, x127, x128, x129, x130, x131, x132, x133, x134, x135, x136, x137, x138, x139, x140, x141, x142, x143, x144, x145, x146, x147, x148, x149, x150, x151, x152, x153, x154, x155, x156, x157, x158, x159, x160, x161, x162, x163, x164, x165, x166, x167, x168, x169, x170, x171, x172, x173, x174, x175, x176, x177, x178, x179, x180, x181, x182, x183, x184, x185, x186, x187, x188, x189, x190, x191, x192, x193, x194, x195, x196, x197, x198, x199, x200, x201, x202, x203, x204, x205, x206, x207, x208, x209], []⟩ : Act) w := by
  have hin' : (i : Int) < (n : Int) := by omega
  have hi0 : (0 : Int) ≤ (i : Int) := by omega
  have hjn' : (j : Int) < (n : Int) := by omega
  have hj0 : (0 : Int) ≤ (j : Int) := by omega
  have hA0 : (0 : Int) ≤ (ci.size : Int) := by omega
  have CE := Lib.hid hc
  have HQ := Lib.hid hQ
  clear hc hQ
  change some _ = some _ at hops
  obtain rfl := Option.some.inj hops
  apply R.wp_region_text [0, 1, 2, 3, 4, 5, 6, 7, 8, 9, 10, 11, 12, 13, 14, 15, 16, 17, 18, 19, 20, 21, 22, 23, 24, 25, 26, 27, 28, 29, 30, 31, 32, 33, 34, 35, 36, 37, 38, 39, 40, 41, 42, 43, 44, 45, 46, 47, 48, 49, 50, 51, 52, 53, 54, 55, 56, 57, 58, 59, 60, 61, 62, 63, 64, 65, 66, 67, 68, 69, 70] [] 71 (R.Keeps [] w)
  case hm => kernel_rfl
  case hB => kernel_rfl
  case hd => rfl
  case hQ => exact hQp
  case hS => exact (R.Keeps.refl _ _).drew
  case hF =>
    intro w' hS
    obtain ⟨z1, z2, z3, z4⟩ := CE.out w' hS
    clear hS
    simp only [List.append_eq, List.cons_append, List.nil_append]
    simp only [R.pickC, List.filterMap_cons, List.getElem?_toArray, List.getElem?_cons_zero, List.getElem?_cons_succ, List.filterMap_nil]
    (with_reducible refine R.wpStill_plain rfl (fun K hK => ?_)); go_simp; with_reducible refine hK _ ?_; clear hK K
    (with_reducible refine R.wpStill_plain rfl (fun K hK => ?_)); go_simp; with_reducible refine hK _ ?_; clear hK K
    (with_reducible refine R.wpStill_plain rfl (fun K hK => ?_)); go_simp; with_reducible refine hK _ ?_; clear hK K
    (with_reducible refine R.wpStill_plain rfl (fun K hK => ?_)); go_simp; with_reducible refine hK _ ?_; clear hK K
    (with_reducible refine R.wpStill_yes rfl ?hy (fun K hK => ?_)); (case hy => exact rfl); go_simp; with_reducible refine hK _ ?_; clear hK K
    (with_reducible refine R.wpStill_yes rfl ?hy (fun K hK => ?_)); (case hy => exact rfl); go_simp; with_reducible refine hK _ ?_; clear hK K
    (with_reducible refine R.wpStill_yes rfl ?hy (fun K hK => ?_)); (case hy => exact rfl); go_simp; with_reducible refine hK _ ?_; clear hK K
    (with_reducible refine R.wpStill_yes rfl ?hy (fun K hK => ?_)); (case hy => exact rfl); go_simp; with_reducible refine hK _ ?_; clear hK K
    (with_reducible refine R.wpStill_yes rfl ?hy (fun K hK => ?_)); (case hy => exact rfl); go_simp; with_reducible refine hK _ ?_; clear hK K
    (with_reducible refine R.wpStill_yes rfl ?hy (fun K hK => ?_)); (case hy => exact rfl); go_simp; with_reducible refine hK _ ?_; clear hK K
    (with_reducible refine R.wpStill_yes rfl ?hy (fun K hK => ?_)); (case hy => exact rfl); go_simp; with_reducible refine hK _ ?_; clear hK K
    (with_reducible refine R.wpStill_yes rfl ?hy (fun K hK => ?_)); (case hy => exact rfl); go_simp; with_reducible refine hK _ ?_; clear hK K
    (with_reducible refine R.wpStill_yes rfl ?hy (fun K hK => ?_)); (case hy => exact rfl); go_simp; with_reducible refine hK _ ?_; clear hK K
    (with_reducible refine R.wpStill_yes rfl ?hy (fun K hK => ?_)); (case hy => exact rfl); go_simp; with_reducible refine hK _ ?_; clear hK K
    (with_reducible refine R.wpStill_yes rfl ?hy (fun K hK => ?_)); (case hy => exact rfl); go_simp; with_reducible refine hK _ ?_; clear hK K
    (with_reducible refine R.wpStill_yes rfl ?hy (fun K hK => ?_)); (case hy => exact rfl); go_simp; with_reducible refine hK _ ?_; clear hK K
    (with_reducible refine R.wpStill_yes rfl ?hy (fun K hK => ?_)); (case hy => exact rfl); go_simp; with_reducible refine hK _ ?_; clear hK K
    (with_reducible refine R.wpStill_yes rfl ?hy (fun K hK => ?_)); (case hy => exact rfl); go_simp; with_reducible refine hK _ ?_; clear hK K
    (with_reducible refine R.wpStill_yes rfl ?hy (fun K hK => ?_)); (case hy => exact rfl); go_simp; with_reducible refine hK _ ?_; clear hK K
    (with_reducible refine R.wpStill_yes rfl ?hy (fun K hK => ?_)); (case hy => exact rfl); go_simp; with_reducible refine hK _ ?_; clear hK K
    (with_reducible refine R.wpStill_yes rfl ?hy (fun K hK => ?_)); (case hy => exact rfl); go_simp; with_reducible refine hK _ ?_; clear hK K
    (with_reducible refine R.wpStill_yes rfl ?hy (fun K hK => ?_)); (case hy => exact rfl); go_simp; with_reducible refine hK _ ?_; clear hK K
    (with_reducible refine R.wpStill_yes rfl ?hy (fun K hK => ?_)); (case hy => exact rfl); go_simp; with_reducible refine hK _ ?_; clear hK K
    (with_reducible refine R.wpStill_yes rfl ?hy (fun K hK => ?_)); (case hy => exact rfl); go_simp; with_reducible refine hK _ ?_; clear hK K
    (with_reducible refine R.wpStill_yes rfl ?hy (fun K hK => ?_)); (case hy => exact rfl); go_simp; with_reducible refine hK _ ?_; clear hK K
    (with_reducible refine R.wpStill_yes rfl ?hy (fun K hK => ?_)); (case hy => exact rfl); go_simp; with_reducible refine hK _ ?_; clear hK K
    (with_reducible refine R.wpStill_yes rfl ?hy (fun K hK => ?_)); (case hy => exact rfl); go_simp; with_reducible refine hK _ ?_; clear hK K
    (with_reducible refine R.wpStill_yes rfl ?hy (fun K hK => ?_)); (case hy => exact rfl); go_simp; with_reducible refine hK _ ?_; clear hK K
    (with_reducible refine R.wpStill_yes rfl ?hy (fun K hK => ?_)); (case hy => exact rfl); go_simp; with_reducible refine hK _ ?_; clear hK K
    (with_reducible refine R.wpStill_yes rfl ?hy (fun K hK => ?_)); (case hy => exact rfl); go_simp; with_reducible refine hK _ ?_; clear hK K
    (with_reducible refine R.wpStill_yes rfl ?hy (fun K hK => ?_)); (case hy => exact rfl); go_simp; with_reducible refine hK _ ?_; clear hK K
    (with_reducible refine R.wpStill_yes rfl ?hy (fun K hK => ?_)); (case hy => exact rfl); go_simp; with_reducible refine hK _ ?_; clear hK K
    (with_reducible refine R.wpStill_yes rfl ?hy (fun K hK => ?_)); (case hy => exact rfl); go_simp; with_reducible refine hK _ ?_; clear hK K
    (with_reducible refine R.wpStill_yes rfl ?hy (fun K hK => ?_)); (case hy => exact rfl); go_simp; with_reducible refine hK _ ?_; clear hK K
    (with_reducible refine R.wpStill_yes rfl ?hy (fun K hK => ?_)); (case hy => exact rfl); go_simp; with_reducible refine hK _ ?_; clear hK K
    (with_reducible refine R.wpStill_yes rfl ?hy (fun K hK => ?_)); (case hy => exact rfl); go_simp; with_reducible refine hK _ ?_; clear hK K
    (with_reducible refine R.wpStill_yes rfl ?hy (fun K hK => ?_)); (case hy => exact rfl); go_simp; with_reducible refine hK _ ?_; clear hK K
    (with_reducible refine R.wpStill_yes rfl ?hy (fun K hK => ?_)); (case hy => exact rfl); go_simp; with_reducible refine hK _ ?_; clear hK K
    (with_reducible refine R.wpStill_yes rfl ?hy (fun K hK => ?_)); (case hy => exact rfl); go_simp; with_reducible refine hK _ ?_; clear hK K
    (with_reducible refine R.wpStill_yes rfl ?hy (fun K hK => ?_)); (case hy => exact rfl); go_simp; with_reducible refine hK _ ?_; clear hK K
    (with_reducible refine R.wpStill_yes rfl ?hy (fun K hK => ?_)); (case hy => exact rfl); go_simp; with_reducible refine hK _ ?_; clear hK K
    (with_reducible refine R.wpStill_yes rfl ?hy (fun K hK => ?_)); (case hy => exact rfl); go_simp; with_reducible refine hK _ ?_; clear hK K
    (with_reducible refine R.wpStill_yes rfl ?hy (fun K hK => ?_)); (case hy => exact rfl); go_simp; with_reducible refine hK _ ?_; clear hK K
    (with_reducible refine R.wpStill_no (b := true) rfl ?hy R.btf ?_); (case hy => exact rfl); simp only [Act.put, List.setIfInBounds_toArray, List.set_cons_zero, List.set_cons_succ]
    (with_reducible refine R.wpStill_no (b := true) rfl ?hy R.btf ?_); (case hy => exact rfl); simp only [Act.put, List.setIfInBounds_toArray, List.set_cons_zero, List.set_cons_succ]
    (with_reducible refine R.wpStill_no (b := true) rfl ?hy R.btf ?_); (case hy => exact rfl); simp only [Act.put, List.setIfInBounds_toArray, List.set_cons_zero, List.set_cons_succ]
    (with_reducible refine R.wpStill_no (b := true) rfl ?hy R.btf ?_); (case hy => exact rfl); simp only [Act.put, List.setIfInBounds_toArray, List.set_cons_zero, List.set_cons_succ]
    (with_reducible refine R.wpStill_no (b := true) rfl ?hy R.btf ?_); (case hy => exact rfl); simp only [Act.put, List.setIfInBounds_toArray, List.set_cons_zero, List.set_cons_succ]
    (with_reducible refine R.wpStill_no (b := true) rfl ?hy R.btf ?_); (case hy => exact rfl); simp only [Act.put, List.setIfInBounds_toArray, List.set_cons_zero, List.set_cons_succ]
    (with_reducible refine R.wpStill_no (b := true) rfl ?hy R.btf ?_); (case hy => exact rfl); simp only [Act.put, List.setIfInBounds_toArray, List.set_cons_zero, List.set_cons_succ]
    (with_reducible refine R.wpStill_no (b := true) rfl ?hy R.btf ?_); (case hy => exact rfl); simp only [Act.put, List.setIfInBounds_toArray, List.set_cons_zero, List.set_cons_succ]
    (with_reducible refine R.wpStill_no (b := true) rfl ?hy R.btf ?_); (case hy => exact rfl); simp only [Act.put, List.setIfInBounds_toArray, List.set_cons_zero, List.set_cons_succ]
    (with_reducible refine R.wpStill_no (b := true) rfl ?hy R.btf ?_); (case hy => exact rfl); simp only [Act.put, List.setIfInBounds_toArray, List.set_cons_zero, List.set_cons_succ]
    (with_reducible refine wpStill_none rfl ?hy ?_); (case hy => exact rfl); simp only [Act.put, List.setIfInBounds_toArray, List.set_cons_zero, List.set_cons_succ]
    (with_reducible refine wpStill_none rfl ?hy ?_); (case hy => exact rfl); simp only [Act.put, List.setIfInBounds_toArray, List.set_cons_zero, List.set_cons_succ]
    (with_reducible refine wpStill_none rfl ?hy ?_); (case hy => exact rfl); simp only [Act.put, List.setIfInBounds_toArray, List.set_cons_zero, List.set_cons_succ]
    (with_reducible refine R.wpStill_no (b := true) rfl ?hy R.btf ?_); (case hy => exact rfl); simp only [Act.put, List.setIfInBounds_toArray, List.set_cons_zero, List.set_cons_succ]
    (with_reducible refine R.wpStill_yes rfl ?hy (fun K hK => ?_)); (case hy => exact rfl); go_simp; with_reducible refine hK _ ?_; clear hK K
    (with_reducible refine R.wpStill_yes rfl ?hy (fun K hK => ?_)); (case hy => exact rfl); go_simp; with_reducible refine hK _ ?_; clear hK K
    (with_reducible refine R.wpStill_yes rfl ?hy (fun K hK => ?_)); (case hy => exact rfl); go_simp; with_reducible refine hK _ ?_; clear hK K
    (with_reducible refine R.wpStill_yes rfl ?hy (fun K hK => ?_)); (case hy => exact rfl); go_simp; with_reducible refine hK _ ?_; clear hK K
    (with_reducible refine R.wpStill_yes rfl ?hy (fun K hK => ?_)); (case hy => exact rfl); go_simp; with_reducible refine hK _ ?_; clear hK K
    (with_reducible refine R.wpStill_yes rfl ?hy (fun K hK => ?_)); (case hy => exact rfl); go_simp; with_reducible refine hK _ ?_; clear hK K
    (with_reducible refine R.wpStill_yes rfl ?hy (fun K hK => ?_)); (case hy => exact rfl); go_simp; with_reducible refine hK _ ?_; clear hK K
    (with_reducible refine R.wpStill_yes rfl ?hy (fun K hK => ?_)); (case hy => exact rfl); go_simp; with_reducible refine hK _ ?_; clear hK K
    (with_reducible refine R.wpStill_yes rfl ?hy (fun K hK => ?_)); (case hy => exact rfl); go_simp; with_reducible refine hK _ ?_; clear hK K
    (with_reducible refine R.wpStill_yes rfl ?hy (fun K hK => ?_)); (case hy => exact rfl); go_simp; with_reducible refine hK _ ?_; clear hK K
    (with_reducible refine R.wpStill_yes rfl ?hy (fun K hK => ?_)); (case hy => exact rfl); go_simp; with_reducible refine hK _ ?_; clear hK K
    (with_reducible refine R.wpStill_yes rfl ?hy (fun K hK => ?_)); (case hy => exact rfl); go_simp; with_reducible refine hK _ ?_; clear hK K
    (with_reducible refine R.wpStill_yes rfl ?hy (fun K hK => ?_)); (case hy => exact rfl); go_simp; with_reducible refine hK _ ?_; clear hK K
    (with_reducible refine R.wpStill_plain rfl (fun K hK => ?_)); go_simp; with_reducible refine hK _ ?_; clear hK K
    exact wpStill_nil rfl
  case hC =>
    simp only [R.chainOf, List.getElem?_toArray, List.getElem?_cons_zero, List.getElem?_cons_succ, Nat.reduceBNe, Bool.and_true, Bool.and_false, Bool.false_and]
    refine R.wpSeq_nil ?_
    exact HQ.out _ _ _ _ _ _ _ _ _ _ _ _ _ _ _ _ _ _ _ _ _ _ _ _ _ _ _ _ _ _ _ _ _ _ _ _ _ _ _ _ _ _ _ _ _ _ _ _ _ _ _ _ _ _ _ _ _ _ _ _ _ _ _ _ _ _ _ _ _ _
set_option maxHeartbeats 8000000 in
set_option maxRecDepth 100000 in
theorem reg2 {ops : Array Oper} (hops : opsIn (Try.f18.body.getD .skip) 15 = some ops) {n i j g8 g11 cap8 cap11 : Nat} (ci cj : ByteArray) (hin : i < n) (hjn : j < n) (b1 : ((i : Int) != (j : Int)) = true) (hA : ci.size ≤ cj.size) (hA' : (ci.size : Int) ≤ (cj.size : Int)) (d1 : decide ((ci.size : Int) ≤ (cj.size : Int)) = true) (b2 : ((cj.extract 0 ci.size).toList == ci.toList) = false) (hlt : ¬ ci.size < cj.size) (b3 : decide ((ci.size : Int) < (cj.size : Int)) = false) (b6 : ((ci.size : Int) == (cj.size : Int)) = true) (hlt2 : i < j) (b7 : decide ((i : Int) < (j : Int)) = true) (b4 : Op.bytesLess ci.toList cj.toList = true) {x0 x1 x2 x3 x4 x5 x6 x7 x9 x10 x12 x15 x16 x17 x18 x19 x20 x21 x22 x23 x24 x25 x26 x27 x28 x29 x30 x31 x32 x33 x34 x35 x36 x37 x38 x39 x40 x41 x42 x43 x44 x45 x46 x47 x48 x49 x50 x51 x52 x53 x54 x55 x56 x57 x58 x59 x60 x61 x62 x63 x64 x65 x66 x67 x68 x69 x70 x71 x72 x73 x74 x75 x76 x77 x78 x79 x80 x81 x82 x83 x84 x85 x86 x87 x88 x89 x90 x91 x92 x93 x94 x95 x96 x97 x98 x99 x100 x101 x102 x103 x104 x105 x106 x107 x108 x109 x110 x111 x112 x113 x114 x115 x116 x117 x118 x119 x120 x121 x122 x123 x124 x125 x126 x127 x128 x129 x130 x131 x132 x133 x134 x135 x136 x137 x138 x139 x140 x141 x142 x143 x144 x145 x146 x147 x148 x149 x150 x151 x152 x153 x154 x155 x156 x157 x158 x159 x160 x161 x162 x163 x164 x165 x166 x167 x168 x169 x170 x171 x172 x173 x174 x175 x176 x177 x178 x179 x180 x181 x182 x183 x184 x185 x186 x187 x188 x189 x190 x191 x192 x193 x194 x195 x196 x197 x198 x199 x200 x201 x202 x203 x204 x205 x206 x207 x208 x209 : Value} {Q : Exit → Act → World → Prop} {w : World}
    (hc : ∀ W, R.Keeps [] w W → W.cell? ⟨g11, i, none⟩ = some (.string ci) ∧ W.cell? ⟨g11, j, none⟩ = some (.string cj) ∧ W.cell? ⟨g8, i, none⟩ = some (.int .i64 (ci.size : Int)) ∧ W.cell? ⟨g8, j, none⟩ = some (.int .i64 (cj.size : Int)))
    (hQp : ∀ c a (d : Tmp) v w, Q (.panic c) (a.put (some d) v) w → Q (.panic c) a w)
    (hQ : ∀ y88 y89 y90 y91 y92 y93 y94 y95 y96 y97 y98 y99 y100 y101 y102 y103 y104 y105 y106 y107 y108 y109 y110 y111 y112 y113 y114 y115 y116 y117 y118 y119 y120 y121 y122 y123 y124 y125 y126 y127 y128 y129 y130 y131 y132 y133 y134 y135 y136 y137 y138 y139 y140 y141 y142 y143 y144 y145 y146 y147 y148 y149 y150 y151 y152 y153 y154 y155 y156 y157 : Value, Q .normal (⟨#[x0, x1, x2, x3, x4, x5, x6, x7, .slice (some ⟨g8, 0, none⟩) n cap8, x9, x10, .slice (some ⟨g11, 0, none⟩) n cap11, x12, .int .i64 (i : Int), .int .i64 (j : Int), x15, x16, x17, x18, x19, x20, x21, x22, x23, x24, x25, x26, x27, x28, x29, x30, x31, x32, x33, x34, x35, x36, x37, x38, x39, x40, x41, x42, x43, x44, x45, x46, x47, x48, x49, x50, x51, x52, x53, x54, x55, x56, x57, x58, x59, x60, x61, x62, x63, x64, x65, x66, x67, x68, x69, x70, x71, x72, x73, x74, x75, x76, x77, x78, x79, x80, x81, x82, x83, x84, x85, x86, x87, y88, y89, y90, y91, y92, y93, y94, y95, y96, y97, y98, y99, y100, y101, y102, y103, y104, y105, y106, y107, y108, y109, y110, y111, y112, y113, y114, y115, y116, y117, y118, y119, y120, y121, y122, y123, y124, y125, y126, y127, y128, y129, y130, y131, y132, y133, y134, y135, y136, y137, y138, y139, y140, y141, y142, y143, y144, y145, y146, y147, y148, y149, y150, y151, y152, y153, y154, y155, y156, y157, .bool false, x159, x160, x161, x162, x163, x164, x165, x166, x167, x168, x169, x170, x171, x172, x173, x174, x175, x176, x177, x178, x179, x180, x181, x182, x183, x184, x185, x186, x187, x188, x189, x190, x191, x192, x193, x194, x195, x196, x197, x198, x199, x200, x201, x202, x203, x204, x205, x206, x207, x208, x209], []⟩ : Act) w.drew) :
    (Code.region 15 ops true).wp Try.prog Q (⟨#[x0, x1, x2, x3, x4, x5, x6, x7, .slice (some ⟨g8, 0, none⟩) n cap8, x9, x10, .slice (some ⟨g11, 0, none⟩) n cap11, x12, .int .i64 (i : Int), .int .i64 (j : Int), x15, x16, x17, x18, x19, x20, x21, x22, x23, x24, x25, x26, x27, x28, x29, x30, x31, x32, x33, x34, x35, x36, x37, x38, x39, x40, x41, x42, x43, x44, x45, x46, x47, x48, x49, x50, x51, x52, x53, x54, x55, x56, x57, x58, x59, x60, x61, x62, x63, x64, x65, x66, x67, x68, x69, x70, x71, x72, x73, x74, x75, x76, x77, x78, x79, x80, x81, x82, x83, x84, x85, x86, x87, x88, x89, x90, x91, x92, x93, x94, x95, x96, x97, x98, x99, x100, x101, x102, x103, x104, x105, x106, x107, x108, x109, x110, x111, x112, x113, x114, x115, x116, x117, x118, x119, x120, x121, x122, x123, x124, x125, x126, x127, x128, x129, x130, x131, x132, x133, x134, x135, x136, x137, x138, x139, x140, x141, x142, x143, x144, x145, x146, x147, x148, x149, x150, x151, x152, x153, x154, x155, x156, x157, x158, x159, x160, x161, x162, x163, x164, x165, x166, x167, x168, x169, x170, x171, x172, x173, x174, x175, x176, x177, x178, x179, x180, x181, x182, x183, x184, x185, x186, x187, x188, x189, x190, x191, x192, x193, x194, x195, x196, x197, x198, x199, x200, x201, x202, x203, x204, x205, x206, x207, x208, x209], []⟩ : Act) w := by
  have hin' : (i : Int) < (n : Int) := by omega
  have hi0 : (0 : Int) ≤ (i : Int) := by omega
  have hjn' : (j : Int) < (n : Int) := by omega
  have hj0 : (0 : Int) ≤ (j : Int) := by omega
  have hA0 : (0 : Int) ≤ (ci.size : Int) := by omega
  have CE := Lib.hid hc
  have HQ := Lib.hid hQ
  clear hc hQ
  change some _ = some _ at hops
  obtain rfl := Option.some.inj hops
  apply R.wp_region_text [0, 1, 2, 3, 4, 5, 6, 7, 8, 9, 10, 11, 12, 13, 14, 15, 16, 17, 18, 19, 20, 21, 22, 23, 24, 25, 26, 27, 28, 29, 30, 31, 32, 33, 34, 35, 36, 37, 38, 39, 40, 41, 42, 43, 44, 45, 46, 47, 48, 49, 50, 51, 52, 53, 54, 55, 56, 57, 58, 59, 60, 61, 62, 63, 64, 65, 66, 67, 68, 69, 70] [] 71 (R.Keeps [] w)
  case hm => kernel_rfl
  case hB => kernel_rfl
  case hd => rfl
  case hQ => exact hQp
  case hS => exact (R.Keeps.refl _ _).drew
  case hF =>
    intro w' hS
    obtain ⟨z1, z2, z3, z4⟩ := CE.out w' hS
    clear hS
    simp only [List.append_eq, List.cons_append, List.nil_append]
    simp only [R.pickC, List.filterMap_cons, List.getElem?_toArray, List.getElem?_cons_zero, List.getElem?_cons_succ, List.filterMap_nil]
    (with_reducible refine R.wpStill_plain rfl (fun K hK => ?_)); go_simp; with_reducible refine hK _ ?_; clear hK K
    (with_reducible refine R.wpStill_plain rfl (fun K hK => ?_)); go_simp; with_reducible refine hK _ ?_; clear hK K
    (with_reducible refine R.wpStill_plain rfl (fun K hK => ?_)); go_simp; with_reducible refine hK _ ?_; clear hK K
    (with_reducible refine R.wpStill_plain rfl (fun K hK => ?_)); go_simp; with_reducible refine hK _ ?_; clear hK K
    (with_reducible refine R.wpStill_yes rfl ?hy (fun K hK => ?_)); (case hy => exact rfl); go_simp; with_reducible refine hK _ ?_; clear hK K
    (with_reducible refine R.wpStill_yes rfl ?hy (fun K hK => ?_)); (case hy => exact rfl); go_simp; with_reducible refine hK _ ?_; clear hK K
    (with_reducible refine R.wpStill_yes rfl ?hy (fun K hK => ?_)); (case hy => exact rfl); go_simp; with_reducible refine hK _ ?_; clear hK K
    (with_reducible refine R.wpStill_yes rfl ?hy (fun K hK => ?_)); (case hy => exact rfl); go_simp; with_reducible refine hK _ ?_; clear hK K
    (with_reducible refine R.wpStill_yes rfl ?hy (fun K hK => ?_)); (case hy => exact rfl); go_simp; with_reducible refine hK _ ?_; clear hK K
    (with_reducible refine R.wpStill_yes rfl ?hy (fun K hK => ?_)); (case hy => exact rfl); go_simp; with_reducible refine hK _ ?_; clear hK K
    (with_reducible refine R.wpStill_yes rfl ?hy (fun K hK => ?_)); (case hy => exact rfl); go_simp; with_reducible refine hK _ ?_; clear hK K
    (with_reducible refine R.wpStill_yes rfl ?hy (fun K hK => ?_)); (case hy => exact rfl); go_simp; with_reducible refine hK _ ?_; clear hK K
    (with_reducible refine R.wpStill_yes rfl ?hy (fun K hK => ?_)); (case hy => exact rfl); go_simp; with_reducible refine hK _ ?_; clear hK K
    (with_reducible refine R.wpStill_yes rfl ?hy (fun K hK => ?_)); (case hy => exact rfl); go_simp; with_reducible refine hK _ ?_; clear hK K
    (with_reducible refine R.wpStill_yes rfl ?hy (fun K hK => ?_)); (case hy => exact rfl); go_simp; with_reducible refine hK _ ?_; clear hK K
    (with_reducible refine R.wpStill_yes rfl ?hy (fun K hK => ?_)); (case hy => exact rfl); go_simp; with_reducible refine hK _ ?_; clear hK K
    (with_reducible refine R.wpStill_yes rfl ?hy (fun K hK => ?_)); (case hy => exact rfl); go_simp; with_reducible refine hK _ ?_; clear hK K
    (with_reducible refine R.wpStill_yes rfl ?hy (fun K hK => ?_)); (case hy => exact rfl); go_simp; with_reducible refine hK _ ?_; clear hK K
    (with_reducible refine R.wpStill_yes rfl ?hy (fun K hK => ?_)); (case hy => exact rfl); go_simp; with_reducible refine hK _ ?_; clear hK K
    (with_reducible refine R.wpStill_yes rfl ?hy (fun K hK => ?_)); (case hy => exact rfl); go_simp; with_reducible refine hK _ ?_; clear hK K
    (with_reducible refine R.wpStill_yes rfl ?hy (fun K hK => ?_)); (case hy => exact rfl); go_simp; with_reducible refine hK _ ?_; clear hK K
    (with_reducible refine R.wpStill_yes rfl ?hy (fun K hK => ?_)); (case hy => exact rfl); go_simp; with_reducible refine hK _ ?_; clear hK K
    (with_reducible refine R.wpStill_yes rfl ?hy (fun K hK => ?_)); (case hy => exact rfl); go_simp; with_reducible refine hK _ ?_; clear hK K
    (with_reducible refine R.wpStill_yes rfl ?hy (fun K hK => ?_)); (case hy => exact rfl); go_simp; with_reducible refine hK _ ?_; clear hK K
    (with_reducible refine R.wpStill_yes rfl ?hy (fun K hK => ?_)); (case hy => exact rfl); go_simp; with_reducible refine hK _ ?_; clear hK K
    (with_reducible refine R.wpStill_yes rfl ?hy (fun K hK => ?_)); (case hy => exact rfl); go_simp; with_reducible refine hK _ ?_; clear hK K
    (with_reducible refine R.wpStill_yes rfl ?hy (fun K hK => ?_)); (case hy => exact rfl); go_simp; with_reducible refine hK _ ?_; clear hK K
    (with_reducible refine R.wpStill_yes rfl ?hy (fun K hK => ?_)); (case hy => exact rfl); go_simp; with_reducible refine hK _ ?_; clear hK K
    (with_reducible refine R.wpStill_yes rfl ?hy (fun K hK => ?_)); (case hy => exact rfl); go_simp; with_reducible refine hK _ ?_; clear hK K
    (with_reducible refine R.wpStill_yes rfl ?hy (fun K hK => ?_)); (case hy => exact rfl); go_simp; with_reducible refine hK _ ?_; clear hK K
    (with_reducible refine R.wpStill_yes rfl ?hy (fun K hK => ?_)); (case hy => exact rfl); go_simp; with_reducible refine hK _ ?_; clear hK K
    (with_reducible refine R.wpStill_yes rfl ?hy (fun K hK => ?_)); (case hy => exact rfl); go_simp; with_reducible refine hK _ ?_; clear hK K
    (with_reducible refine R.wpStill_yes rfl ?hy (fun K hK => ?_)); (case hy => exact rfl); go_simp; with_reducible refine hK _ ?_; clear hK K
    (with_reducible refine R.wpStill_yes rfl ?hy (fun K hK => ?_)); (case hy => exact rfl); go_simp; with_reducible refine hK _ ?_; clear hK K
    (with_reducible refine R.wpStill_yes rfl ?hy (fun K hK => ?_)); (case hy => exact rfl); go_simp; with_reducible refine hK _ ?_; clear hK K
    (with_reducible refine R.wpStill_yes rfl ?hy (fun K hK => ?_)); (case hy => exact rfl); go_simp; with_reducible refine hK _ ?_; clear hK K
    (with_reducible refine R.wpStill_yes rfl ?hy (fun K hK => ?_)); (case hy => exact rfl); go_simp; with_reducible refine hK _ ?_; clear hK K
    (with_reducible refine R.wpStill_yes rfl ?hy (fun K hK => ?_)); (case hy => exact rfl); go_simp; with_reducible refine hK _ ?_; clear hK K
    (with_reducible refine R.wpStill_yes rfl ?hy (fun K hK => ?_)); (case hy => exact rfl); go_simp; with_reducible refine hK _ ?_; clear hK K
    (with_reducible refine R.wpStill_yes rfl ?hy (fun K hK => ?_)); (case hy => exact rfl); go_simp; with_reducible refine hK _ ?_; clear hK K
    (with_reducible refine R.wpStill_yes rfl ?hy (fun K hK => ?_)); (case hy => exact rfl); go_simp; with_reducible refine hK _ ?_; clear hK K
    (with_reducible refine R.wpStill_yes rfl ?hy (fun K hK => ?_)); (case hy => exact rfl); go_simp; with_reducible refine hK _ ?_; clear hK K
    (with_reducible refine R.wpStill_yes rfl ?hy (fun K hK => ?_)); (case hy => exact rfl); go_simp; with_reducible refine hK _ ?_; clear hK K
    (with_reducible refine R.wpStill_yes rfl ?hy (fun K hK => ?_)); (case hy => exact rfl); go_simp; with_reducible refine hK _ ?_; clear hK K
    (with_reducible refine R.wpStill_yes rfl ?hy (fun K hK => ?_)); (case hy => exact rfl); go_simp; with_reducible refine hK _ ?_; clear hK K
    (with_reducible refine R.wpStill_yes rfl ?hy (fun K hK => ?_)); (case hy => exact rfl); go_simp; with_reducible refine hK _ ?_; clear hK K
    (with_reducible refine R.wpStill_yes rfl ?hy (fun K hK => ?_)); (case hy => exact rfl); go_simp; with_reducible refine hK _ ?_; clear hK K
    (with_reducible refine R.wpStill_yes rfl ?hy (fun K hK => ?_)); (case hy => exact rfl); go_simp; with_reducible refine hK _ ?_; clear hK K
    (with_reducible refine R.wpStill_yes rfl ?hy (fun K hK => ?_)); (case hy => exact rfl); go_simp; with_reducible refine hK _ ?_; clear hK K
    (with_reducible refine R.wpStill_yes rfl ?hy (fun K hK => ?_)); (case hy => exact rfl); go_simp; with_reducible refine hK _ ?_; clear hK K
    (with_reducible refine R.wpStill_yes rfl ?hy (fun K hK => ?_)); (case hy => exact rfl); go_simp; with_reducible refine hK _ ?_; clear hK K
    (with_reducible refine R.wpStill_yes rfl ?hy (fun K hK => ?_)); (case hy => exact rfl); go_simp; with_reducible refine hK _ ?_; clear hK K
    (with_reducible refine R.wpStill_yes rfl ?hy (fun K hK => ?_)); (case hy => exact rfl); go_simp; with_reducible refine hK _ ?_; clear hK K
    (with_reducible refine R.wpStill_yes rfl ?hy (fun K hK => ?_)); (case hy => exact rfl); go_simp; with_reducible refine hK _ ?_; clear hK K
    (with_reducible refine R.wpStill_yes rfl ?hy (fun K hK => ?_)); (case hy => exact rfl); go_simp; with_reducible refine hK _ ?_; clear hK K
    (with_reducible refine R.wpStill_yes rfl ?hy (fun K hK => ?_)); (case hy => exact rfl); go_simp; with_reducible refine hK _ ?_; clear hK K
    (with_reducible refine R.wpStill_yes rfl ?hy (fun K hK => ?_)); (case hy => exact rfl); go_simp; with_reducible refine hK _ ?_; clear hK K
    (with_reducible refine R.wpStill_yes rfl ?hy (fun K hK => ?_)); (case hy => exact rfl); go_simp; with_reducible refine hK _ ?_; clear hK K
    (with_reducible refine R.wpStill_yes rfl ?hy (fun K hK => ?_)); (case hy => exact rfl); go_simp; with_reducible refine hK _ ?_; clear hK K
    (with_reducible refine R.wpStill_yes rfl ?hy (fun K hK => ?_)); (case hy => exact rfl); go_simp; with_reducible refine hK _ ?_; clear hK K
    (with_reducible refine R.wpStill_yes rfl ?hy (fun K hK => ?_)); (case hy => exact rfl); go_simp; with_reducible refine hK _ ?_; clear hK K
    (with_reducible refine R.wpStill_yes rfl ?hy (fun K hK => ?_)); (case hy => exact rfl); go_simp; with_reducible refine hK _ ?_; clear hK K
    (with_reducible refine R.wpStill_yes rfl ?hy (fun K hK => ?_)); (case hy => exact rfl); go_simp; with_reducible refine hK _ ?_; clear hK K
    (with_reducible refine R.wpStill_yes rfl ?hy (fun K hK => ?_)); (case hy => exact rfl); go_simp; with_reducible refine hK _ ?_; clear hK K
    (with_reducible refine R.wpStill_yes rfl ?hy (fun K hK => ?_)); (case hy => exact rfl); go_simp; with_reducible refine hK _ ?_; clear hK K
    (with_reducible refine R.wpStill_yes rfl ?hy (fun K hK => ?_)); (case hy => exact rfl); go_simp; with_reducible refine hK _ ?_; clear hK K
    (with_reducible refine R.wpStill_yes rfl ?hy (fun K hK => ?_)); (case hy => exact rfl); go_simp; with_reducible refine hK _ ?_; clear hK K
    (with_reducible refine R.wpStill_yes rfl ?hy (fun K hK => ?_)); (case hy => exact rfl); go_simp; with_reducible refine hK _ ?_; clear hK K
    (with_reducible refine R.wpStill_yes rfl ?hy (fun K hK => ?_)); (case hy => exact rfl); go_simp; with_reducible refine hK _ ?_; clear hK K
    (with_reducible refine R.wpStill_yes rfl ?hy (fun K hK => ?_)); (case hy => exact rfl); go_simp; with_reducible refine hK _ ?_; clear hK K
    (with_reducible refine R.wpStill_plain rfl (fun K hK => ?_)); go_simp; with_reducible refine hK _ ?_; clear hK K
    exact wpStill_nil rfl
  case hC =>
    simp only [R.chainOf, List.getElem?_toArray, List.getElem?_cons_zero, List.getElem?_cons_succ, Nat.reduceBNe, Bool.and_true, Bool.and_false, Bool.false_and]
    refine R.wpSeq_nil ?_
    exact HQ.out _ _ _ _ _ _ _ _ _ _ _ _ _ _ _ _ _ _ _ _ _ _ _ _ _ _ _ _ _ _ _ _ _ _ _ _ _ _ _ _ _ _ _ _ _ _ _ _ _ _ _ _ _ _ _ _ _ _ _ _ _ _ _ _ _ _ _ _ _ _
set_option maxHeartbeats 8000000 in
set_option maxRecDepth 100000 in
theorem reg3 {ops : Array Oper} (hops : opsIn (Try.f18.body.getD .skip) 15 = some ops) {n i j g8 g11 cap8 cap11 : Nat} (ci cj : ByteArray) (hin : i < n) (hjn : j < n) (b1 : ((i : Int) != (j : Int)) = true) (hA : ci.size ≤ cj.size) (hA' : (ci.size : Int) ≤ (cj.size : Int)) (d1 : decide ((ci.size : Int) ≤ (cj.size : Int)) = true) (b2 : ((cj.extract 0 ci.size).toList == ci.toList) = false) (hlt : ¬ ci.size < cj.size) (b3 : decide ((ci.size : Int) < (cj.size : Int)) = false) (b6 : ((ci.size : Int) == (cj.size : Int)) = true) (hlt2 : ¬ i < j) (b7 : decide ((i : Int) < (j : Int)) = false) {x0 x1 x2 x3 x4 x5 x6 x7 x9 x10 x12 x15 x16 x17 x18 x19 x20 x21 x22 x23 x24 x25 x26 x27 x28 x29 x30 x31 x32 x33 x34 x35 x36 x37 x38 x39 x40 x41 x42 x43 x44 x45 x46 x47 x48 x49 x50 x51 x52 x53 x54 x55 x56 x57 x58 x59 x60 x61 x62 x63 x64 x65 x66 x67 x68 x69 x70 x71 x72 x73 x74 x75 x76 x77 x78 x79 x80 x81 x82 x83 x84 x85 x86 x87 x88 x89 x90 x91 x92 x93 x94 x95 x96 x97 x98 x99 x100 x101 x102 x103 x104 x105 x106 x107 x108 x109 x110 x111 x112 x113 x114 x115 x116 x117 x118 x119 x120 x121 x122 x123 x124 x125 x126 x127 x128 x129 x130 x131 x132 x133 x134 x135 x136 x137 x138 x139 x140 x141 x142 x143 x144 x145 x146 x147 x148 x149 x150 x151 x152 x153 x154 x155 x156 x157 x158 x159 x160 x161 x162 x163 x164 x165 x166 x167 x168 x169 x170 x171 x172 x173 x174 x175 x176 x177 x178 x179 x180 x181 x182 x183 x184 x185 x186 x187 x188 x189 x190 x191 x192 x193 x194 x195 x196 x197 x198 x199 x200 x201 x202 x203 x204 x205 x206 x207 x208 x209 : Value} {Q : Exit → Act → World → Prop} {w : World}
    (hc : ∀ W, R.Keeps [] w W → W.cell? ⟨g11, i, none⟩ = some (.string ci) ∧ W.cell? ⟨g11, j, none⟩ = some (.string cj) ∧ W.cell? ⟨g8, i, none⟩ = some (.int .i64 (ci.size : Int)) ∧ W.cell? ⟨g8, j, none⟩ = some (.int .i64 (cj.size : Int)))
    (hQp : ∀ c a (d : Tmp) v w, Q (.panic c) (a.put (some d) v) w → Q (.panic c) a w)
    (hQ : ∀ y88 y89 y90 y91 y92 y93 y94 y95 y96 y97 y98 y99 y100 y101 y102 y103 y104 y105 y106 y107 y108 y109 y110 y111 y112 y113 y114 y115 y116 y117 y118 y119 y120 y121 y122 y123 y124 y125 y126 y127 y128 y129 y130 y131 y132 y133 y134 y135 y136 y137 y138 y139 y140 y141 y142 y143 y144 y145 y146 y147 y148 y149 y150 y151 y152 y153 y154 y155 y156 y157 : Value, Q .normal (⟨#[x0, x1, x2, x3, x4, x5, x6, x7, .slice (some ⟨g8, 0, none⟩) n cap8, x9, x10, .slice (some ⟨g11, 0, none⟩) n cap11, x12, .int .i64 (i : Int), .int .i64 (j : Int), x15, x16, x17, x18, x19, x20, x21, x22, x23, x24, x25, x26, x27, x28, x29, x30, x31, x32, x33, x34, x35, x36, x37, x38, x39, x40, x41, x42, x43, x44, x45, x46, x47, x48, x49, x50, x51, x52, x53, x54, x55, x56, x57, x58, x59, x60, x61, x62, x63, x64, x65, x66, x67, x68, x69, x70, x71, x72, x73, x74, x75, x76, x77, x78, x79, x80, x81, x82, x83, x84, x85, x86, x87, y88, y89, y90, y91, y92, y93, y94, y95, y96, y97, y98, y99, y100, y101, y102, y103, y104, y105, y106, y107, y108, y109, y110, y111, y112, y113, y114, y115, y116, y117, y118, y119, y120, y121, y122, y123, y124, y125, y126, y127, y128, y129, y130, y131, y132, y133, y134, y135, y136, y137, y138, y139, y140, y141, y142, y143, y144, y145, y146, y147, y148, y149, y150, y151, y152, y153, y154, y155, y156, y157, .bool false, x159, x160, x161, x162, x163, x164, x165, x166, x167, x168, x169, x170, x171, x172, x173, x174, x175, x176, x177, x178, x179, x180, x181, x182, x183, x184, x185, x186, x187, x188, x189, x190, x191, x192, x193, x194, x195, x196, x197, x198, x199, x200, x201, x202, x203, x204, x205, x206, x207, x208, x209], []⟩ : Act) w.drew) :
    (Code.region 15 ops true).wp Try.prog Q (⟨#[x0, x1, x2, x3, x4, x5, x6, x7, .slice (some ⟨g8, 0, none⟩) n cap8, x9, x10, .slice (some ⟨g11, 0, none⟩) n cap11, x12, .int .i64 (i : Int), .int .i64 (j : Int), x15, x16, x17, x18, x19, x20, x21, x22, x23, x24, x25, x26, x27, x28, x29, x30, x31, x32, x33, x34, x35, x36, x37, x38, x39, x40, x41, x42, x43, x44, x45, x46, x47, x48, x49, x50, x51, x52, x53, x54, x55, x56, x57, x58, x59, x60, x61, x62, x63, x64, x65, x66, x67, x68, x69, x70, x71, x72, x73, x74, x75, x76, x77, x78, x79, x80, x81, x82, x83, x84, x85, x86, x87, x88, x89, x90, x91, x92, x93, x94, x95, x96, x97, x98, x99, x100, x101, x102, x103, x104, x105, x106, x107, x108, x109, x110, x111, x112, x113, x114, x115, x116, x117, x118, x119, x120, x121, x122, x123, x124, x125, x126, x127, x128, x129, x130, x131, x132, x133, x134, x135, x136, x137, x138, x139, x140, x141, x142, x143, x144, x145, x146, x147, x148, x149, x150, x151, x152, x153, x154, x155, x156, x157, x158, x159, x160, x161, x162, x163, x164, x165, x166, x167, x168, x169, x170, x171, x172, x173, x174, x175, x176, x177, x178, x179, x180, x181, x182, x183, x184, x185, x186, x187, x188, x189, x190, x191, x192, x193, x194, x195, x196, x197, x198, x199, x200, x201, x202, x203, x204, x205, x206, x207, x208, x209], []⟩ : Act) w := by
  have hin' : (i : Int) < (n : Int) := by omega
  have hi0 : (0 : Int) ≤ (i : Int) := by omega
  have hjn' : (j : Int) < (n : Int) := by omega
  have hj0 : (0 : Int) ≤ (j : Int) := by omega
  have hA0 : (0 : Int) ≤ (ci.size : Int) := by omega
  have CE := Lib.hid hc
  have HQ := Lib.hid hQ
  clear hc hQ
  change some _ = some _ at hops
  obtain rfl := Option.some.inj hops
  apply R.wp_region_text [0, 1, 2, 3, 4, 5, 6, 7, 8, 9, 10, 11, 12, 13, 14, 15, 16, 17, 18, 19, 20, 21, 22, 23, 24, 25, 26, 27, 28, 29, 30, 31, 32, 33, 34, 35, 36, 37, 38, 39, 40, 41, 42, 43, 44, 45, 46, 47, 48, 49, 50, 51, 52, 53, 54, 55, 56, 57, 58, 59, 60, 61, 62, 63, 64, 65, 66, 67, 68, 69, 70] [] 71 (R.Keeps [] w)
  case hm => kernel_rfl
  case hB => kernel_rfl
  case hd => rfl
  case hQ => exact hQp
  case hS => exact (R.Keeps.refl _ _).drew
  case hF =>
    intro w' hS
    obtain ⟨z1, z2, z3, z4⟩ := CE.out w' hS
    clear hS
    simp only [List.append_eq, List.cons_append, List.nil_append]
    simp only [R.pickC, List.filterMap_cons, List.getElem?_toArray, List.getElem?_cons_zero, List.getElem?_cons_succ, List.filterMap_nil]
    (with_reducible refine R.wpStill_plain rfl (fun K hK => ?_)); go_simp; with_reducible refine hK _ ?_; clear hK K
    (with_reducible refine R.wpStill_plain rfl (fun K hK => ?_)); go_simp; with_reducible refine hK _ ?_; clear hK K
    (with_reducible refine R.wpStill_plain rfl (fun K hK => ?_)); go_simp; with_reducible refine hK _ ?_; clear hK K
    (with_reducible refine R.wpStill_plain rfl (fun K hK => ?_)); go_simp; with_reducible refine hK _ ?_; clear hK K
    (with_reducible refine R.wpStill_yes rfl ?hy (fun K hK => ?_)); (case hy => exact rfl); go_simp; with_reducible refine hK _ ?_; clear hK K
    (with_reducible refine R.wpStill_yes rfl ?hy (fun K hK => ?_)); (case hy => exact rfl); go_simp; with_reducible refine hK _ ?_; clear hK K
    (with_reducible refine R.wpStill_yes rfl ?hy (fun K hK => ?_)); (case hy => exact rfl); go_simp; with_reducible refine hK _ ?_; clear hK K
    (with_reducible refine R.wpStill_yes rfl ?hy (fun K hK => ?_)); (case hy => exact rfl); go_simp; with_reducible refine hK _ ?_; clear hK K
    (with_reducible refine R.wpStill_yes rfl ?hy (fun K hK => ?_)); (case hy => exact rfl); go_simp; with_reducible refine hK _ ?_; clear hK K
    (with_reducible refine R.wpStill_yes rfl ?hy (fun K hK => ?_)); (case hy => exact rfl); go_simp; with_reducible refine hK _ ?_; clear hK K
    (with_reducible refine R.wpStill_yes rfl ?hy (fun K hK => ?_)); (case hy => exact rfl); go_simp; with_reducible refine hK _ ?_; clear hK K
    (with_reducible refine R.wpStill_yes rfl ?hy (fun K hK => ?_)); (case hy => exact rfl); go_simp; with_reducible refine hK _ ?_; clear hK K
    (with_reducible refine R.wpStill_yes rfl ?hy (fun K hK => ?_)); (case hy => exact rfl); go_simp; with_reducible refine hK _ ?_; clear hK K
    (with_reducible refine R.wpStill_yes rfl ?hy (fun K hK => ?_)); (case hy => exact rfl); go_simp; with_reducible refine hK _ ?_; clear hK K
    (with_reducible refine R.wpStill_yes rfl ?hy (fun K hK => ?_)); (case hy => exact rfl); go_simp; with_reducible refine hK _ ?_; clear hK K
    (with_reducible refine R.wpStill_yes rfl ?hy (fun K hK => ?_)); (case hy => exact rfl); go_simp; with_reducible refine hK _ ?_; clear hK K
    (with_reducible refine R.wpStill_yes rfl ?hy (fun K hK => ?_)); (case hy => exact rfl); go_simp; with_reducible refine hK _ ?_; clear hK K
    (with_reducible refine R.wpStill_yes rfl ?hy (fun K hK => ?_)); (case hy => exact rfl); go_simp; with_reducible refine hK _ ?_; clear hK K
    (with_reducible refine R.wpStill_yes rfl ?hy (fun K hK => ?_)); (case hy => exact rfl); go_simp; with_reducible refine hK _ ?_; clear hK K
    (with_reducible refine R.wpStill_yes rfl ?hy (fun K hK => ?_)); (case hy => exact rfl); go_simp; with_reducible refine hK _ ?_; clear hK K
    (with_reducible refine R.wpStill_yes rfl ?hy (fun K hK => ?_)); (case hy => exact rfl); go_simp; with_reducible refine hK _ ?_; clear hK K
    (with_reducible refine R.wpStill_yes rfl ?hy (fun K hK => ?_)); (case hy => exact rfl); go_simp; with_reducible refine hK _ ?_; clear hK K
    (with_reducible refine R.wpStill_yes rfl ?hy (fun K hK => ?_)); (case hy => exact rfl); go_simp; with_reducible refine hK _ ?_; clear hK K
    (with_reducible refine R.wpStill_yes rfl ?hy (fun K hK => ?_)); (case hy => exact rfl); go_simp; with_reducible refine hK _ ?_; clear hK K
    (with_reducible refine R.wpStill_yes rfl ?hy (fun K hK => ?_)); (case hy => exact rfl); go_simp; with_reducible refine hK _ ?_; clear hK K
    (with_reducible refine R.wpStill_yes rfl ?hy (fun K hK => ?_)); (case hy => exact rfl); go_simp; with_reducible refine hK _ ?_; clear hK K
    (with_reducible refine R.wpStill_yes rfl ?hy (fun K hK => ?_)); (case hy => exact rfl); go_simp; with_reducible refine hK _ ?_; clear hK K
    (with_reducible refine R.wpStill_yes rfl ?hy (fun K hK => ?_)); (case hy => exact rfl); go_simp; with_reducible refine hK _ ?_; clear hK K
    (with_reducible refine R.wpStill_yes rfl ?hy (fun K hK => ?_)); (case hy => exact rfl); go_simp; with_reducible refine hK _ ?_; clear hK K
    (with_reducible refine R.wpStill_yes rfl ?hy (fun K hK => ?_)); (case hy => exact rfl); go_simp; with_reducible refine hK _ ?_; clear hK K
    (with_reducible refine R.wpStill_yes rfl ?hy (fun K hK => ?_)); (case hy => exact rfl); go_simp; with_reducible refine hK _ ?_; clear hK K
    (with_reducible refine R.wpStill_yes rfl ?hy (fun K hK => ?_)); (case hy => exact rfl); go_simp; with_reducible refine hK _ ?_; clear hK K
    (with_reducible refine R.wpStill_yes rfl ?hy (fun K hK => ?_)); (case hy => exact rfl); go_simp; with_reducible refine hK _ ?_; clear hK K
    (with_reducible refine R.wpStill_yes rfl ?hy (fun K hK => ?_)); (case hy => exact rfl); go_simp; with_reducible refine hK _ ?_; clear hK K
    (with_reducible refine R.wpStill_yes rfl ?hy (fun K hK => ?_)); (case hy => exact rfl); go_simp; with_reducible refine hK _ ?_; clear hK K
    (with_reducible refine R.wpStill_yes rfl ?hy (fun K hK => ?_)); (case hy => exact rfl); go_simp; with_reducible refine hK _ ?_; clear hK K
    (with_reducible refine R.wpStill_yes rfl ?hy (fun K hK => ?_)); (case hy => exact rfl); go_simp; with_reducible refine hK _ ?_; clear hK K
    (with_reducible refine R.wpStill_yes rfl ?hy (fun K hK => ?_)); (case hy => exact rfl); go_simp; with_reducible refine hK _ ?_; clear hK K
    (with_reducible refine R.wpStill_yes rfl ?hy (fun K hK => ?_)); (case hy => exact rfl); go_simp; with_reducible refine hK _ ?_; clear hK K
    (with_reducible refine R.wpStill_yes rfl ?hy (fun K hK => ?_)); (case hy => exact rfl); go_simp; with_reducible refine hK _ ?_; clear hK K
    (with_reducible refine R.wpStill_yes rfl ?hy (fun K hK => ?_)); (case hy => exact rfl); go_simp; with_reducible refine hK _ ?_; clear hK K
    (with_reducible refine R.wpStill_yes rfl ?hy (fun K hK => ?_)); (case hy => exact rfl); go_simp; with_reducible refine hK _ ?_; clear hK K
    (with_reducible refine R.wpStill_yes rfl ?hy (fun K hK => ?_)); (case hy => exact rfl); go_simp; with_reducible refine hK _ ?_; clear hK K
    (with_reducible refine R.wpStill_yes rfl ?hy (fun K hK => ?_)); (case hy => exact rfl); go_simp; with_reducible refine hK _ ?_; clear hK K
    (with_reducible refine R.wpStill_yes rfl ?hy (fun K hK => ?_)); (case hy => exact rfl); go_simp; with_reducible refine hK _ ?_; clear hK K
    (with_reducible refine R.wpStill_yes rfl ?hy (fun K hK => ?_)); (case hy => exact rfl); go_simp; with_reducible refine hK _ ?_; clear hK K
    (with_reducible refine R.wpStill_yes rfl ?hy (fun K hK => ?_)); (case hy => exact rfl); go_simp; with_reducible refine hK _ ?_; clear hK K
    (with_reducible refine R.wpStill_yes rfl ?hy (fun K hK => ?_)); (case hy => exact rfl); go_simp; with_reducible refine hK _ ?_; clear hK K
    (with_reducible refine R.wpStill_yes rfl ?hy (fun K hK => ?_)); (case hy => exact rfl); go_simp; with_reducible refine hK _ ?_; clear hK K
    (with_reducible refine R.wpStill_yes rfl ?hy (fun K hK => ?_)); (case hy => exact rfl); go_simp; with_reducible refine hK _ ?_; clear hK K
    (with_reducible refine R.wpStill_yes rfl ?hy (fun K hK => ?_)); (case hy => exact rfl); go_simp; with_reducible refine hK _ ?_; clear hK K
    (with_reducible refine R.wpStill_yes rfl ?hy (fun K hK => ?_)); (case hy => exact rfl); go_simp; with_reducible refine hK _ ?_; clear hK K
    (with_reducible refine R.wpStill_yes rfl ?hy (fun K hK => ?_)); (case hy => exact rfl); go_simp; with_reducible refine hK _ ?_; clear hK K
    (with_reducible refine R.wpStill_yes rfl ?hy (fun K hK => ?_)); (case hy => exact rfl); go_simp; with_reducible refine hK _ ?_; clear hK K
    (with_reducible refine R.wpStill_yes rfl ?hy (fun K hK => ?_)); (case hy => exact rfl); go_simp; with_reducible refine hK _ ?_; clear hK K
    (with_reducible refine R.wpStill_yes rfl ?hy (fun K hK => ?_)); (case hy => exact rfl); go_simp; with_reducible refine hK _ ?_; clear hK K
    (with_reducible refine R.wpStill_yes rfl ?hy (fun K hK => ?_)); (case hy => exact rfl); go_simp; with_reducible refine hK _ ?_; clear hK K
    (with_reducible refine R.wpStill_yes rfl ?hy (fun K hK => ?_)); (case hy => exact rfl); go_simp; with_reducible refine hK _ ?_; clear hK K
    (with_reducible refine R.wpStill_yes rfl ?hy (fun K hK => ?_)); (case hy => exact rfl); go_simp; with_reducible refine hK _ ?_; clear hK K
    (with_reducible refine R.wpStill_no (b := false) rfl ?hy R.bft ?_); (case hy => exact rfl); simp only [Act.put, List.setIfInBounds_toArray, List.set_cons_zero, List.set_cons_succ]
    (with_reducible refine R.wpStill_no (b := false) rfl ?hy R.bft ?_); (case hy => exact rfl); simp only [Act.put, List.setIfInBounds_toArray, List.set_cons_zero, List.set_cons_succ]
    (with_reducible refine R.wpStill_no (b := false) rfl ?hy R.bft ?_); (case hy => exact rfl); simp only [Act.put, List.setIfInBounds_toArray, List.set_cons_zero, List.set_cons_succ]
    (with_reducible refine R.wpStill_no (b := false) rfl ?hy R.bft ?_); (case hy => exact rfl); simp only [Act.put, List.setIfInBounds_toArray, List.set_cons_zero, List.set_cons_succ]
    (with_reducible refine R.wpStill_no (b := false) rfl ?hy R.bft ?_); (case hy => exact rfl); simp only [Act.put, List.setIfInBounds_toArray, List.set_cons_zero, List.set_cons_succ]
    (with_reducible refine R.wpStill_no (b := false) rfl ?hy R.bft ?_); (case hy => exact rfl); simp only [Act.put, List.setIfInBounds_toArray, List.set_cons_zero, List.set_cons_succ]
    (with_reducible refine R.wpStill_no (b := false) rfl ?hy R.bft ?_); (case hy => exact rfl); simp only [Act.put, List.setIfInBounds_toArray, List.set_cons_zero, List.set_cons_succ]
    (with_reducible refine R.wpStill_no (b := false) rfl ?hy R.bft ?_); (case hy => exact rfl); simp only [Act.put, List.setIfInBounds_toArray, List.set_cons_zero, List.set_cons_succ]
    (with_reducible refine R.wpStill_no (b := false) rfl ?hy R.bft ?_); (case hy => exact rfl); simp only [Act.put, List.setIfInBounds_toArray, List.set_cons_zero, List.set_cons_succ]
    (with_reducible refine R.wpStill_yes rfl ?hy (fun K hK => ?_)); (case hy => exact rfl); go_simp; with_reducible refine hK _ ?_; clear hK K
    (with_reducible refine R.wpStill_yes rfl ?hy (fun K hK => ?_)); (case hy => exact rfl); go_simp; with_reducible refine hK _ ?_; clear hK K
    (with_reducible refine R.wpStill_plain rfl (fun K hK => ?_)); go_simp; with_reducible refine hK _ ?_; clear hK K
    exact wpStill_nil rfl
  case hC =>
    simp only [R.chainOf, List.getElem?_toArray, List.getElem?_cons_zero, List.getElem?_cons_succ, Nat.reduceBNe, Bool.and_true, Bool.and_false, Bool.false_and]
    refine R.wpSeq_nil ?_
    exact HQ.out _ _ _ _ _ _ _ _ _ _ _ _ _ _ _ _ _ _ _ _ _ _ _ _ _ _ _ _ _ _ _ _ _ _ _ _ _ _ _ _ _ _ _ _ _ _ _ _ _ _ _ _ _ _ _ _ _ _ _ _ _ _ _ _ _ _ _ _ _ _
set_option maxHeartbeats 8000000 in
set_option maxRecDepth 100000 in
theorem reg4 {ops : Array Oper} (hops : opsIn (Try.f18.body.getD .skip) 15 = some ops) {n i j g8 g11 cap8 cap11 : Nat} (ci cj : ByteArray) (hin : i < n) (hjn : j < n) (b1 : ((i : Int) != (j : Int)) = true) (hA : ¬ ci.size ≤ cj.size) (d1 : decide ((ci.size : Int) ≤ (cj.size : Int)) = false) (b8 : ¬ ci.size < cj.size) (b3 : decide ((ci.size : Int) < (cj.size : Int)) = false) (b6 : ((ci.size : Int) == (cj.size : Int)) = false) {x0 x1 x2 x3 x4 x5 x6 x7 x9 x10 x12 x15 x16 x17 x18 x19 x20 x21 x22 x23 x24 x25 x26 x27 x28 x29 x30 x31 x32 x33 x34 x35 x36 x37 x38 x39 x40 x41 x42 x43 x44 x45 x46 x47 x48 x49 x50 x51 x52 x53 x54 x55 x56 x57 x58 x59 x60 x61 x62 x63 x64 x65 x66 x67 x68 x69 x70 x71 x72 x73 x74 x75 x76 x77 x78 x79 x80 x81 x82 x83 x84 x85 x86 x87 x88 x89 x90 x91 x92 x93 x94 x95 x96 x97 x98 x99 x100 x101 x102 x103 x104 x105 x106 x107 x108 x109 x110 x111 x112 x113 x114 x115 x116 x117 x118 x119 x120 x121 x122 x123 x124 x125 x126 x127 x128 x129 x130 x131 x132 x133 x134 x135 x136 x137 x138 x139 x140 x141 x142 x143 x144 x145 x146 x147 x148 x149 x150 x151 x152 x153 x154 x155 x156 x157 x158 x159 x160 x161 x162 x163 x164 x165 x166 x167 x168 x169 x170 x171 x172 x173 x174 x175 x176 x177 x178 x179 x180 x181 x182 x183 x184 x185 x186 x187 x188 x189 x190 x191 x192 x193 x194 x195 x196 x197 x198 x199 x200 x201 x202 x203 x204 x205 x206 x207 x208 x209 : Value} {Q : Exit → Act → World → Prop} {w : World}
    (hc : ∀ W, R.Keeps [] w W → W.cell? ⟨g11, i, none⟩ = some (.string ci) ∧ W.cell? ⟨g11, j, none⟩ = some (.string cj) ∧ W.cell? ⟨g8, i, none⟩ = some (.int .i64 (ci.size : Int)) ∧ W.cell? ⟨g8, j, none⟩ = some (.int .i64 (cj.size : Int)))
    (hQp : ∀ c a (d : Tmp) v w, Q (.panic c) (a.put (some d) v) w → Q (.panic c) a w)
    (hQ : ∀ y88 y89 y90 y91 y92 y93 y94 y95 y96 y97 y98 y99 y100 y101 y102 y103 y104 y105 y106 y107 y108 y109 y110 y111 y112 y113 y114 y115 y116 y117 y118 y119 y120 y121 y122 y123 y124 y125 y126 y127 y128 y129 y130 y131 y132 y133 y134 y135 y136 y137 y138 y139 y140 y141 y142 y143 y144 y145 y146 y147 y148 y149 y150 y151 y152 y153 y154 y155 y156 y157 : Value, Q .normal (⟨#[x0, x1, x2, x3, x4, x5, x6, x7, .slice (some ⟨g8, 0, none⟩) n cap8, x9, x10, .slice (some ⟨g11, 0, none⟩) n cap11, x12, .int .i64 (i : Int), .int .i64 (j : Int), x15, x16, x17, x18, x19, x20, x21, x22, x23, x24, x25, x26, x27, x28, x29, x30, x31, x32, x33, x34, x35, x36, x37, x38, x39, x40, x41, x42, x43, x44, x45, x46, x47, x48, x49, x50, x51, x52, x53, x54, x55, x56, x57, x58, x59, x60, x61, x62, x63, x64, x65, x66, x67, x68, x69, x70, x71, x72, x73, x74, x75, x76, x77, x78, x79, x80, x81, x82, x83, x84, x85, x86, x87, y88, y89, y90, y91, y92, y93, y94, y95, y96, y97, y98, y99, y100, y101, y102, y103, y104, y105, y106, y107, y108, y109, y110, y111, y112, y113, y114, y115, y116, y117, y118, y119, y120, y121, y122, y123, y124, y125, y126, y127, y128, y129, y130, y131, y132, y133, y134, y135, y136, y137, y138, y139, y140, y141, y142, y143, y144, y145, y146, y147, y148, y149, y150, y151, y152, y153, y154, y155, y156, y157, .bool false, x159, x160, x161, x162, x163, x164, x165, x166, x167, x168, x169, x170, x171, x172, x173, x174, x175, x176, x177, x178, x179, x180, x181, x182, x183, x184, x185, x186, x187, x188, x189, x190, x191, x192, x193, x194, x195, x196, x197, x198, x199, x200, x201, x202, x203, x204, x205, x206, x207, x208, x209], []⟩ : Act) w.drew) :
    (Code.region 15 ops true).wp Try.prog Q (⟨#[x0, x1, x2, x3, x4, x5, x6, x7, .slice (some ⟨g8, 0, none⟩) n cap8, x9, x10, .slice (some ⟨g11, 0, none⟩) n cap11, x12, .int .i64 (i : Int), .int .i64 (j : Int), x15, x16, x17, x18, x19, x20, x21, x22, x23, x24, x25, x26, x27, x28, x29, x30, x31, x32, x33, x34, x35, x36, x37, x38, x39, x40, x41, x42, x43, x44, x45, x46, x47, x48, x49, x50, x51, x52, x53, x54, x55, x56, x57, x58, x59, x60, x61, x62, x63, x64, x65, x66, x67, x68, x69, x70, x71, x72, x73, x74, x75, x76, x77, x78, x79, x80, x81, x82, x83, x84, x85, x86, x87, x88, x89, x90, x91, x92, x93, x94, x95, x96, x97, x98, x99, x100, x101, x102, x103, x104, x105, x106, x107, x108, x109, x110, x111, x112, x113, x114, x115, x116, x117, x118, x119, x120, x121, x122, x123, x124, x125, x126, x127, x128, x129, x130, x131, x132, x133, x134, x135, x136, x137, x138, x139, x140, x141, x142, x143, x144, x145, x146, x147, x148, x149, x150, x151, x152, x153, x154, x155, x156, x157, x158, x159, x160, x161, x162, x163, x164, x165, x166, x167, x168, x169, x170, x171, x172, x173, x174, x175, x176, x177, x178, x179, x180, x181, x182, x183, x184, x185, x186, x187, x188, x189, x190, x191, x192, x193, x194, x195, x196, x197, x198, x199, x200, x201, x202, x203, x204, x205, x206, x207, x208, x209], []⟩ : Act) w := by
  have hin' : (i : Int) < (n : Int) := by omega
  have hi0 : (0 : Int) ≤ (i : Int) := by omega
  have hjn' : (j : Int) < (n : Int) := by omega
  have hj0 : (0 : Int) ≤ (j : Int) := by omega
  have hA0 : (0 : Int) ≤ (ci.size : Int) := by omega
  have CE := Lib.hid hc
  have HQ := Lib.hid hQ
  clear hc hQ
  change some _ = some _ at hops
  obtain rfl := Option.some.inj hops
  apply R.wp_region_text [0, 1, 2, 3, 4, 5, 6, 7, 8, 9, 10, 11, 12, 13, 14, 15, 16, 17, 18, 19, 20, 21, 22, 23, 24, 25, 26, 27, 28, 29, 30, 31, 32, 33, 34, 35, 36, 37, 38, 39, 40, 41, 42, 43, 44, 45, 46, 47, 48, 49, 50, 51, 52, 53, 54, 55, 56, 57, 58, 59, 60, 61, 62, 63, 64, 65, 66, 67, 68, 69, 70] [] 71 (R.Keeps [] w)
  case hm => kernel_rfl
  case hB => kernel_rfl
  case hd => rfl
  case hQ => exact hQp
  case hS => exact (R.Keeps.refl _ _).drew
  case hF =>
    intro w' hS
    obtain ⟨z1, z2, z3, z4⟩ := CE.out w' hS
    clear hS
    simp only [List.append_eq, List.cons_append, List.nil_append]
    simp only [R.pickC, List.filterMap_cons, List.getElem?_toArray, List.getElem?_cons_zero, List.getElem?_cons_succ, List.filterMap_nil]
    (with_reducible refine R.wpStill_plain rfl (fun K hK => ?_)); go_simp; with_reducible refine hK _ ?_; clear hK K
    (with_reducible refine R.wpStill_plain rfl (fun K hK => ?_)); go_simp; with_reducible refine hK _ ?_; clear hK K
    (with_reducible refine R.wpStill_plain rfl (fun K hK => ?_)); go_simp; with_reducible refine hK _ ?_; clear hK K
    (with_reducible refine R.wpStill_plain rfl (fun K hK => ?_)); go_simp; with_reducible refine hK _ ?_; clear hK K
    (with_reducible refine R.wpStill_yes rfl ?hy (fun K hK => ?_)); (case hy => exact rfl); go_simp; with_reducible refine hK _ ?_; clear hK K
    (with_reducible refine R.wpStill_yes rfl ?hy (fun K hK => ?_)); (case hy => exact rfl); go_simp; with_reducible refine hK _ ?_; clear hK K
    (with_reducible refine R.wpStill_yes rfl ?hy (fun K hK => ?_)); (case hy => exact rfl); go_simp; with_reducible refine hK _ ?_; clear hK K
    (with_reducible refine R.wpStill_yes rfl ?hy (fun K hK => ?_)); (case hy => exact rfl); go_simp; with_reducible refine hK _ ?_; clear hK K
    (with_reducible refine R.wpStill_yes rfl ?hy (fun K hK => ?_)); (case hy => exact rfl); go_simp; with_reducible refine hK _ ?_; clear hK K
    (with_reducible refine R.wpStill_yes rfl ?hy (fun K hK => ?_)); (case hy => exact rfl); go_simp; with_reducible refine hK _ ?_; clear hK K
    (with_reducible refine R.wpStill_yes rfl ?hy (fun K hK => ?_)); (case hy => exact rfl); go_simp; with_reducible refine hK _ ?_; clear hK K
    (with_reducible refine R.wpStill_yes rfl ?hy (fun K hK => ?_)); (case hy => exact rfl); go_simp; with_reducible refine hK _ ?_; clear hK K
    (with_reducible refine R.wpStill_yes rfl ?hy (fun K hK => ?_)); (case hy => exact rfl); go_simp; with_reducible refine hK _ ?_; clear hK K
    (with_reducible refine R.wpStill_yes rfl ?hy (fun K hK => ?_)); (case hy => exact rfl); go_simp; with_reducible refine hK _ ?_; clear hK K
    (with_reducible refine R.wpStill_yes rfl ?hy (fun K hK => ?_)); (case hy => exact rfl); go_simp; with_reducible refine hK _ ?_; clear hK K
    (with_reducible refine R.wpStill_yes rfl ?hy (fun K hK => ?_)); (case hy => exact rfl); go_simp; with_reducible refine hK _ ?_; clear hK K
    (with_reducible refine R.wpStill_no (b := false) rfl ?hy R.bft ?_); (case hy => exact rfl); simp only [Act.put, List.setIfInBounds_toArray, List.set_cons_zero, List.set_cons_succ]
    (with_reducible refine R.wpStill_no (b := false) rfl ?hy R.bft ?_); (case hy => exact rfl); simp only [Act.put, List.setIfInBounds_toArray, List.set_cons_zero, List.set_cons_succ]
    (with_reducible refine R.wpStill_no (b := false) rfl ?hy R.bft ?_); (case hy => exact rfl); simp only [Act.put, List.setIfInBounds_toArray, List.set_cons_zero, List.set_cons_succ]
    (with_reducible refine R.wpStill_no (b := false) rfl ?hy R.bft ?_); (case hy => exact rfl); simp only [Act.put, List.setIfInBounds_toArray, List.set_cons_zero, List.set_cons_succ]
    (with_reducible refine R.wpStill_no (b := false) rfl ?hy R.bft ?_); (case hy => exact rfl); simp only [Act.put, List.setIfInBounds_toArray, List.set_cons_zero, List.set_cons_succ]
    (with_reducible refine R.wpStill_no (b := false) rfl ?hy R.bft ?_); (case hy => exact rfl); simp only [Act.put, List.setIfInBounds_toArray, List.set_cons_zero, List.set_cons_succ]
    (with_reducible refine R.wpStill_no (b := false) rfl ?hy R.bft ?_); (case hy => exact rfl); simp only [Act.put, List.setIfInBounds_toArray, List.set_cons_zero, List.set_cons_succ]
    (with_reducible refine R.wpStill_no (b := false) rfl ?hy R.bft ?_); (case hy => exact rfl); simp only [Act.put, List.setIfInBounds_toArray, List.set_cons_zero, List.set_cons_succ]
    (with_reducible refine R.wpStill_no (b := false) rfl ?hy R.bft ?_); (case hy => exact rfl); simp only [Act.put, List.setIfInBounds_toArray, List.set_cons_zero, List.set_cons_succ]
    (with_reducible refine R.wpStill_no (b := false) rfl ?hy R.bft ?_); (case hy => exact rfl); simp only [Act.put, List.setIfInBounds_toArray, List.set_cons_zero, List.set_cons_succ]
    (with_reducible refine R.wpStill_no (b := false) rfl ?hy R.bft ?_); (case hy => exact rfl); simp only [Act.put, List.setIfInBounds_toArray, List.set_cons_zero, List.set_cons_succ]
    (with_reducible refine R.wpStill_no (b := false) rfl ?hy R.bft ?_); (case hy => exact rfl); simp only [Act.put, List.setIfInBounds_toArray, List.set_cons_zero, List.set_cons_succ]
    (with_reducible refine R.wpStill_no (b := false) rfl ?hy R.bft ?_); (case hy => exact rfl); simp only [Act.put, List.setIfInBounds_toArray, List.set_cons_zero, List.set_cons_succ]
    (with_reducible refine R.wpStill_no (b := false) rfl ?hy R.bft ?_); (case hy => exact rfl); simp only [Act.put, List.setIfInBounds_toArray, List.set_cons_zero, List.set_cons_succ]
    (with_reducible refine R.wpStill_no (b := false) rfl ?hy R.bft ?_); (case hy => exact rfl); simp only [Act.put, List.setIfInBounds_toArray, List.set_cons_zero, List.set_cons_succ]
    (with_reducible refine R.wpStill_yes rfl ?hy (fun K hK => ?_)); (case hy => exact rfl); go_simp; with_reducible refine hK _ ?_; clear hK K
    (with_reducible refine R.wpStill_yes rfl ?hy (fun K hK => ?_)); (case hy => exact rfl); go_simp; with_reducible refine hK _ ?_; clear hK K
    (with_reducible refine R.wpStill_yes rfl ?hy (fun K hK => ?_)); (case hy => exact rfl); go_simp; with_reducible refine hK _ ?_; clear hK K
    (with_reducible refine R.wpStill_yes rfl ?hy (fun K hK => ?_)); (case hy => exact rfl); go_simp; with_reducible refine hK _ ?_; clear hK K
    (with_reducible refine R.wpStill_yes rfl ?hy (fun K hK => ?_)); (case hy => exact rfl); go_simp; with_reducible refine hK _ ?_; clear hK K
    (with_reducible refine R.wpStill_yes rfl ?hy (fun K hK => ?_)); (case hy => exact rfl); go_simp; with_reducible refine hK _ ?_; clear hK K
    (with_reducible refine R.wpStill_yes rfl ?hy (fun K hK => ?_)); (case hy => exact rfl); go_simp; with_reducible refine hK _ ?_; clear hK K
    (with_reducible refine R.wpStill_yes rfl ?hy (fun K hK => ?_)); (case hy => exact rfl); go_simp; with_reducible refine hK _ ?_; clear hK K
    (with_reducible refine R.wpStill_yes rfl ?hy (fun K hK => ?_)); (case hy => exact rfl); go_simp; with_reducible refine hK _ ?_; clear hK K
    (with_reducible refine R.wpStill_yes rfl ?hy (fun K hK => ?_)); (case hy => exact rfl); go_simp; with_reducible refine hK _ ?_; clear hK K
    (with_reducible refine R.wpStill_yes rfl ?hy (fun K hK => ?_)); (case hy => exact rfl); go_simp; with_reducible refine hK _ ?_; clear hK K
    (with_reducible refine R.wpStill_yes rfl ?hy (fun K hK => ?_)); (case hy => exact rfl); go_simp; with_reducible refine hK _ ?_; clear hK K
    (with_reducible refine R.wpStill_yes rfl ?hy (fun K hK => ?_)); (case hy => exact rfl); go_simp; with_reducible refine hK _ ?_; clear hK K
    (with_reducible refine R.wpStill_yes rfl ?hy (fun K hK => ?_)); (case hy => exact rfl); go_simp; with_reducible refine hK _ ?_; clear hK K
    (with_reducible refine R.wpStill_yes rfl ?hy (fun K hK => ?_)); (case hy => exact rfl); go_simp; with_reducible refine hK _ ?_; clear hK K
    (with_reducible refine R.wpStill_yes rfl ?hy (fun K hK => ?_)); (case hy => exact rfl); go_simp; with_reducible refine hK _ ?_; clear hK K
    (with_reducible refine R.wpStill_yes rfl ?hy (fun K hK => ?_)); (case hy => exact rfl); go_simp; with_reducible refine hK _ ?_; clear hK K
    (with_reducible refine R.wpStill_yes rfl ?hy (fun K hK => ?_)); (case hy => exact rfl); go_simp; with_reducible refine hK _ ?_; clear hK K
    (with_reducible refine R.wpStill_yes rfl ?hy (fun K hK => ?_)); (case hy => exact rfl); go_simp; with_reducible refine hK _ ?_; clear hK K
    (with_reducible refine R.wpStill_yes rfl ?hy (fun K hK => ?_)); (case hy => exact rfl); go_simp; with_reducible refine hK _ ?_; clear hK K
    (with_reducible refine R.wpStill_yes rfl ?hy (fun K hK => ?_)); (case hy => exact rfl); go_simp; with_reducible refine hK _ ?_; clear hK K
    (with_reducible refine R.wpStill_yes rfl ?hy (fun K hK => ?_)); (case hy => exact rfl); go_simp; with_reducible refine hK _ ?_; clear hK K
    (with_reducible refine R.wpStill_no (b := false) rfl ?hy R.bft ?_); (case hy => exact rfl); simp only [Act.put, List.setIfInBounds_toArray, List.set_cons_zero, List.set_cons_succ]
    (with_reducible refine R.wpStill_no (b := false) rfl ?hy R.bft ?_); (case hy => exact rfl); simp only [Act.put, List.setIfInBounds_toArray, List.set_cons_zero, List.set_cons_succ]
    (with_reducible refine R.wpStill_no (b := false) rfl ?hy R.bft ?_); (case hy => exact rfl); simp only [Act.put, List.setIfInBounds_toArray, List.set_cons_zero, List.set_cons_succ]
    (with_reducible refine R.wpStill_yes rfl ?hy (fun K hK => ?_)); (case hy => exact rfl); go_simp; with_reducible refine hK _ ?_; clear hK K
    (with_reducible refine R.wpStill_yes rfl ?hy (fun K hK => ?_)); (case hy => exact rfl); go_simp; with_reducible refine hK _ ?_; clear hK K
    (with_reducible refine R.wpStill_yes rfl ?hy (fun K hK => ?_)); (case hy => exact rfl); go_simp; with_reducible refine hK _ ?_; clear hK K
    (with_reducible refine R.wpStill_no (b := false) rfl ?hy R.bft ?_); (case hy => exact rfl); simp only [Act.put, List.setIfInBounds_toArray, List.set_cons_zero, List.set_cons_succ]
    (with_reducible refine R.wpStill_no (b := false) rfl ?hy R.bft ?_); (case hy => exact rfl); simp only [Act.put, List.setIfInBounds_toArray, List.set_cons_zero, List.set_cons_succ]
    (with_reducible refine R.wpStill_no (b := false) rfl ?hy R.bft ?_); (case hy => exact rfl); simp only [Act.put, List.setIfInBounds_toArray, List.set_cons_zero, List.set_cons_succ]
    (with_reducible refine R.wpStill_no (b := false) rfl ?hy R.bft ?_); (case hy => exact rfl); simp only [Act.put, List.setIfInBounds_toArray, List.set_cons_zero, List.set_cons_succ]
    (with_reducible refine R.wpStill_no (b := false) rfl ?hy R.bft ?_); (case hy => exact rfl); simp only [Act.put, List.setIfInBounds_toArray, List.set_cons_zero, List.set_cons_succ]
    (with_reducible refine R.wpStill_no (b := false) rfl ?hy R.bft ?_); (case hy => exact rfl); simp only [Act.put, List.setIfInBounds_toArray, List.set_cons_zero, List.set_cons_succ]
    (with_reducible refine R.wpStill_no (b := false) rfl ?hy R.bft ?_); (case hy => exact rfl); simp only [Act.put, List.setIfInBounds_toArray, List.set_cons_zero, List.set_cons_succ]
    (with_reducible refine R.wpStill_no (b := false) rfl ?hy R.bft ?_); (case hy => exact rfl); simp only [Act.put, List.setIfInBounds_toArray, List.set_cons_zero, List.set_cons_succ]
    (with_reducible refine R.wpStill_no (b := false) rfl ?hy R.bft ?_); (case hy => exact rfl); simp only [Act.put, List.setIfInBounds_toArray, List.set_cons_zero, List.set_cons_succ]
    (with_reducible refine R.wpStill_yes rfl ?hy (fun K hK => ?_)); (case hy => exact rfl); go_simp; with_reducible refine hK _ ?_; clear hK K
    (with_reducible refine R.wpStill_yes rfl ?hy (fun K hK => ?_)); (case hy => exact rfl); go_simp; with_reducible refine hK _ ?_; clear hK K
    (with_reducible refine R.wpStill_plain rfl (fun K hK => ?_)); go_simp; with_reducible refine hK _ ?_; clear hK K
    exact wpStill_nil rfl
  case hC =>
    simp only [R.chainOf, List.getElem?_toArray, List.getElem?_cons_zero, List.getElem?_cons_succ, Nat.reduceBNe, Bool.and_true, Bool.and_false, Bool.false_and]
    refine R.wpSeq_nil ?_
    exact HQ.out _ _ _ _ _ _ _ _ _ _ _ _ _ _ _ _ _ _ _ _ _ _ _ _ _ _ _ _ _ _ _ _ _ _ _ _ _ _ _ _ _ _ _ _ _ _ _ _ _ _ _ _ _ _ _ _ _ _ _ _ _ _ _ _ _ _ _ _ _ _
end Go.Proofs.Ytcpojohpmcnnhaa.L

set_option linter.unusedVariables false
set_option linter.unusedSimpArgs false
namespace Go.Proofs.Ytcpojohpmcnnhaa.L
open Go.RowKit Go.Proofs.YtcpojohpmcnnhaaW.PrintWords Go.Proofs.YtcpojohpmcnnhaaW.PrintLast Go.Proofs.YtcpojohpmcnnhaaW.PrintMore
open Go.Proofs.Ytcpojohpmcnnhaa.PA Go.Proofs.Ytcpojohpmcnnhaa.A
theorem R_int {g cap : Nat} {w : World} {base : Nat} {l : List Int} (h : Kd.R (Kd.int .i64) 3 w base (fun _ => True) (.slice (some ⟨g, 0, none⟩) l.length cap) l) {i : Nat} (hi : i < l.length) : w.cell? ⟨g, i, none⟩ = some (.int .i64 (l.getD i 0)) := by
  have h1 := (Kd.R_cell (0 : Int) h (i : Int) (by omega) (by omega)).1
  rw [Int.toNat_natCast] at h1
  refine h1.trans ?_
  congr 1
theorem mod_d {x n r : Int} (h : turndownlaw06_mod.f x n = some r) (w : World) : Calls Try.prog 39 #[.int .i64 x, .int .i64 n] w fun e w' => e = .returned (.int .i64 r) ∧ Below w.heap.size w w' :=
  (turndownlaw06_mod.calls x n r w h).mono (by rintro e w' ⟨rfl, nd, rfl⟩; exact ⟨rfl, pw_below_drewN (Below.refl _ _) nd⟩)
def listS (ms : Nat → Int) (q : Nat) : List Int := (List.range q).map ms
theorem listS_len (ms : Nat → Int) (q : Nat) : (listS ms q).length = q := by simp [listS]
theorem listS_next (ms : Nat → Int) (q : Nat) : listS ms (q + 1) = listS ms q ++ [ms q] := by simp [listS, List.range_succ]
set_option maxHeartbeats 8000000 in
set_option maxRecDepth 100000 in
theorem prefixes_c (A0 : Option Addr) (c0 : Nat) (l0 : List Int) (A1 : Option Addr) (c1 : Nat) (l1 : List Int) (a2 : Int) (w : World) (hr0 : Kd.C (Kd.int .i64) w A0 l0.length l0) (hc0 : l0.length ≤ c0) (hr1 : Kd.C (Kd.int .i64) w A1 l1.length l1) (k n : Nat)
    (W : List Int) (hT : turndownlaw06_tame.f k l0 20 0 = some W) (hWn : W.length = n) (hn1 : 1 ≤ n) (hn20 : n ≤ 20) (q2 : Int) (hM : turndownlaw06_mod.f a2 28 = some q2) (l : List Int) (cst : Int) (hBs : code_Best.f k W (wrap64 (5 + q2)) = some (l, cst, 0)) (hln : l.length = n)
    (C : List ByteArray) (hCd : code_Code.f k l = some (C, 0)) (hCn : C.length = n) (hcl : ∀ i, i < n → l.getD i 0 = ((C.getD i ⟨#[]⟩).size : Int)) (hcz : ∀ i, i < n → (C.getD i ⟨#[]⟩).size ≤ 32) (hbits : ∀ i, i < n → turndownref06_Bits.f k (C.getD i ⟨#[]⟩) = some true)
    (hpre : ∀ i j, i < n → j < n → i ≠ j → (C.getD i ⟨#[]⟩).size ≤ (C.getD j ⟨#[]⟩).size → (((C.getD j ⟨#[]⟩).extract 0 (C.getD i ⟨#[]⟩).size).toList == (C.getD i ⟨#[]⟩).toList) = false)
    (hless : ∀ i j, i < n → j < n → ((C.getD i ⟨#[]⟩).size < (C.getD j ⟨#[]⟩).size ∨ ((C.getD i ⟨#[]⟩).size = (C.getD j ⟨#[]⟩).size ∧ i < j)) → Op.bytesLess (C.getD i ⟨#[]⟩).toList (C.getD j ⟨#[]⟩).toList = true)
    (ms : Nat → Int) (hms : ∀ q, q < 200 → q < l1.length → turndownlaw06_mod.f (l1.getD q 0) (n : Int) = some (ms q)) (Q : Nat) (hQ : Q = if 1 < n then min l1.length 200 else 0)
    (t : ByteArray) (hEn : code_Encode.f l (listS ms Q) = some (t, 0)) (hDe : code_Decode.f l t = some (listS ms Q, 0)) (hIn : turndownlaw06_ints.f k (listS ms Q) (listS ms Q) = some true) (haw : turndownlaw06_awake.f k = some true) :
    Calls Try.prog 18 #[.slice A0 l0.length c0, .slice A1 l1.length c1, .int .i64 a2] w fun e w' => e = .returned (.bool true) ∧ Below w.heap.size w w' := by
  have HTm := Lib.hid (turndownlaw06_tame.calls k A0 c0 l0 20 0 W w hr0 hc0 hT)
  have HMd := Lib.hid (fun W => mod_d hM W)
  have HBs : Hid (∀ (A : Option Addr) (c : Nat) (w' : World), Kd.C (Kd.int .i64) w' A W.length W → W.length ≤ c → Calls Try.prog 20 #[.slice A W.length c, .int .i64 (wrap64 (5 + q2))] w' fun e w2 => ∃ v0_ : Value, e = .returned (.tuple #[v0_, .int .i64 cst, .int .i64 0]) ∧ Kd.R (Kd.int .i64) 3 w2 w'.heap.size (fun _ => True) v0_ l ∧ Below w'.heap.size w' w2) := Lib.hid (fun A c w' h1 h2 => code_Best.calls k A c W _ l cst 0 w' h1 h2 hBs)
  have HCd : Hid (∀ (A : Option Addr) (c : Nat) (w' : World), Kd.C (Kd.int .i64) w' A l.length l → l.length ≤ c → Calls Try.prog 27 #[.slice A l.length c] w' fun e w2 => ∃ v0_ : Value, e = .returned (.tuple #[v0_, .int .i64 0]) ∧ Kd.R Kd.string 9 w2 w'.heap.size (fun _ => True) v0_ C ∧ Below w'.heap.size w' w2) := Lib.hid (fun A c w' h1 h2 => code_Code.calls k A c l C 0 w' h1 h2 hCd)
  have HR1 := Lib.hid hr1
  have HRC : Hid (∀ W, Below w.heap.size w W → ∀ i, i < l1.length → ∃ ad, A1 = some ad ∧ W.cell? (ad.add i) = some (.int .i64 (l1.getD i 0))) := Lib.hid (fun W hW i hi => by
    obtain ⟨ad, vx, e1, e2, e3⟩ := at_int hr1 hW i hi
    exact ⟨ad, e1, by rw [List.getD_eq_getElem?_getD, e2.out]; exact e3⟩)
  have hl1m : l1.length ≤ 9223372036854775807 := hr1.2.1
  have HCL := Lib.hid hcl
  have HCZ := Lib.hid hcz
  have HBT := Lib.hid hbits
  have HPR := Lib.hid hpre
  have HLS := Lib.hid hless
  have HMS := Lib.hid hms
  have HQ := Lib.hid hQ
  have HEN := Lib.hid hEn
  have HDE := Lib.hid hDe
  have HIN := Lib.hid hIn
  have HAW := Lib.hid haw
  have HWN := Lib.hid hWn
  have HLN := Lib.hid hln
  have HCN := Lib.hid hCn
  clear hWn hln hCn
  clear hr0 hc0 hT hM hBs hCd hr1 hcl hcz hbits hpre hless hms hQ hEn hDe hIn haw
  go_enter Try.func18, Try.ntmps18
  go_upto_region 3 with (first | (go_at_call 38; refine HTm.out.mono ?_; rintro e w1 ⟨v7, rfl, hR7, hB1⟩) | (go_at_call 39; refine (HMd.out _).mono ?_; rintro e w2 ⟨rfl, hB2⟩))
  obtain ⟨g7, cap7, rfl, hg71, hg72, -⟩ := Kd.R_form hR7 (by have := HWN.out; omega)
  have hC7 := Kd.C_below (Kd.R_reads' hR7).2.2 hB2
  have hcp7 := (Kd.R_reads' hR7).2.1
  have hB12 := hB1.trans (hB2.mono hB1.size)
  clear hR7 HTm HMd
  go_upto_region 5 with (first | (go_at_call 20; refine (HBs.out _ _ _ hC7 hcp7).mono ?_; rintro e w3 ⟨v8, rfl, hR8, hB3⟩; obtain ⟨g8, cap8, rfl, hg81, hg82, -⟩ := Kd.R_form hR8 (by have := HLN.out; omega)) | (go_at_call 27; refine (HCd.out _ _ _ (Kd.R_reads' hR8).2.2 (Kd.R_reads' hR8).2.1).mono ?_; rintro e w4 ⟨v11, rfl, hR11, hB4⟩))
  obtain ⟨g11, cap11, rfl, hg111, hg112, -⟩ := Kd.R_form hR11 (by have := HCN.out; omega)
  have hB34 : Below w.heap.size w w4 := (hB12.trans (hB3.mono hB12.size)).trans (hB4.mono (Nat.le_trans hB12.size hB3.size))
  have HC8 : Hid (∀ W, Below w4.heap.size w4 W → Kd.C (Kd.int .i64) W (some ⟨g8, 0, none⟩) l.length l) := Lib.hid (fun W hW => Kd.C_below (Kd.C_below (Kd.R_reads' hR8).2.2 hB4) hW)
  have hcp8 := (Kd.R_reads' hR8).2.1
  have HL8 : Hid (∀ W, Below w4.heap.size w4 W → ∀ i, i < n → W.cell? ⟨g8, i, none⟩ = some (.int .i64 ((C.getD i ⟨#[]⟩).size : Int))) := Lib.hid (fun W hW i hi => by
    rw [← HCL.out i hi]
    exact (hW.cell (show g8 < w4.heap.size by have := hB4.size; omega)).trans ((hB4.cell hg82).trans (R_int hR8 (by have := HLN.out; omega))))
  have HL11 : Hid (∀ W, Below w4.heap.size w4 W → ∀ i, i < n → W.cell? ⟨g11, i, none⟩ = some (.string (C.getD i ⟨#[]⟩))) := Lib.hid (fun W hW i hi => (hW.cell hg112).trans (R_str hR11 (by have := HCN.out; omega)))
  have HB4 := Lib.hid hB34
  clear hB1 hB2 hB3 hB4 hB12 hB34 hR8 hR11 hC7 HBs HCd HCL
  rw [HLN.out] at hcp8
  simp only [HWN.out, HLN.out, HCN.out]
  go_wp2_with fail
  go_loopw [13, 14] (fun v13 _ wr => ∃ i : Nat, v13 = .int .i64 (i : Int) ∧ i ≤ n ∧ Hid (Below w4.heap.size w4 wr)) (fun v13 _ _ => n - (intOf v13).toNat)
  case atStart => exact ⟨0, rfl, Nat.zero_le _, Lib.hid (Below.refl _ _)⟩
  case round =>
    rename World => wr
    obtain ⟨i, rfl, hi, HBr⟩ := hrel
    by_cases hin : i < n
    · have hin' : (i : Int) < (n : Int) := by omega
      have hi0 : (0 : Int) ≤ (i : Int) := by omega
      have hci := HL11.out wr HBr.out i hin
      have hli := HL8.out wr HBr.out i hin
      have HBi := Lib.hid (fun W => turndownref06_Bits.calls k _ true W (HBT.out i hin))
      have hzi := HCZ.out i hin
      obtain ⟨ci, hcie⟩ : ∃ ci, C.getD i ⟨#[]⟩ = ci := ⟨_, rfl⟩
      rw [hcie] at hci hli HBi hzi
      have HCI := Lib.hid hcie
      clear hcie
      go_upto_region 10 with (fail)
      go_cut [81] (fun v81 wc => v81 = .bool false ∧ Hid (Below w4.heap.size w4 wc))
      case first =>
        go_wp2_with (first | (go_at_call 31; (with_reducible refine (HBi.out _).mono ?_); rintro e w' ⟨rfl, ⟨nd, rfl⟩⟩; (try first | exact ⟨rfl, _, World.drewN_drewN _ _ _⟩ | exact ⟨rfl, _, Eq.trans (World.drewN_drewN _ _ _) (congrArg (World.drewN _) (Nat.add_assoc _ _ _))⟩)))
        repeat (go_quiet (first | (go_at_call 31; (with_reducible refine (HBi.out _).mono ?_); rintro e w' ⟨rfl, ⟨nd, rfl⟩⟩; (try first | exact ⟨rfl, _, World.drewN_drewN _ _ _⟩ | exact ⟨rfl, _, Eq.trans (World.drewN_drewN _ _ _) (congrArg (World.drewN _) (Nat.add_assoc _ _ _))⟩))); try go_wp2)
        go_meet
        case rel => exact ⟨rfl, Lib.hid (by repeat (first | exact HBr.out | apply pw_below_drewN | apply below_drew1))⟩
      case rest =>
        obtain ⟨rfl, HBc⟩ := hcut
        go_wp2_with fail
        go_loopw [14] (fun v14 wj => ∃ j : Nat, v14 = .int .i64 (j : Int) ∧ j ≤ n ∧ Hid (Below w4.heap.size w4 wj)) (fun v14 _ => n - (intOf v14).toNat)
        case atStart => exact ⟨0, rfl, Nat.zero_le _, HBc⟩
        case round =>
          rename World => wj
          obtain ⟨j, rfl, hj, HBj⟩ := hrel
          by_cases hjn : j < n
          · have hjn' : (j : Int) < (n : Int) := by omega
            have hj0 : (0 : Int) ≤ (j : Int) := by omega
            have hci := HL11.out wj HBj.out i hin
            have hli := HL8.out wj HBj.out i hin
            have hcj := HL11.out wj HBj.out j hjn
            have hlj := HL8.out wj HBj.out j hjn
            rw [HCI.out] at hci hli
            have hzj := HCZ.out j hjn
            have hprf := HPR.out i j hin hjn
            have hlsf := HLS.out i j hin hjn
            rw [HCI.out] at hprf hlsf
            obtain ⟨cj, hcje⟩ : ∃ cj, C.getD j ⟨#[]⟩ = cj := ⟨_, rfl⟩
            rw [hcje] at hcj hlj hzj hprf hlsf
            have HPF := Lib.hid hprf
            have HLF := Lib.hid hlsf
            have HCJ := Lib.hid hcje
            have HB0 := Lib.hid (show True from trivial)
            clear hprf hlsf hcje
            go_upto_region 15 with (fail)
            go_cut [158] (fun v158 wc => v158 = .bool false ∧ Hid (Below w4.heap.size w4 wc))
            case first =>
              have CE : Hid (∀ W, R.Keeps [] wj W → W.cell? ⟨g11, i, none⟩ = some (.string ci) ∧ W.cell? ⟨g11, j, none⟩ = some (.string cj) ∧ W.cell? ⟨g8, i, none⟩ = some (.int .i64 (ci.size : Int)) ∧ W.cell? ⟨g8, j, none⟩ = some (.int .i64 (cj.size : Int))) :=
                Lib.hid (fun W hW => ⟨hW.cell hci (by simp), hW.cell hcj (by simp), hW.cell hli (by simp), hW.cell hlj (by simp)⟩)
              clear hci hcj hli hlj
              by_cases hij : i = j
              · subst hij
                have b1 : ((i : Int) != (i : Int)) = false := by simp
                refine reg0 (ops := _) rfl ci cj hin b1 CE.out (fun _ _ _ _ _ h => h) ?_
                intro y88 y89 y90 y91 y92 y93 y94 y95 y96 y97 y98 y99 y100 y101 y102 y103 y104 y105 y106 y107 y108 y109 y110 y111 y112 y113 y114 y115 y116 y117 y118 y119 y120 y121 y122 y123 y124 y125 y126 y127 y128 y129 y130 y131 y132 y133 y134 y135 y136 y137 y138 y139 y140 y141 y142 y143 y144 y145 y146 y147 y148 y149 y150 y151 y152 y153 y154 y155 y156 y157
                go_wp2_with fail
                go_meet
                case rel => exact ⟨rfl, Lib.hid (by repeat (first | exact HBj.out | apply pw_below_drewN | apply below_drew1))⟩
              · have b1 : ((i : Int) != (j : Int)) = true := bne_iff_ne.mpr (by omega)
                have hA0 : (0 : Int) ≤ (ci.size : Int) := by omega
                by_cases hA : ci.size ≤ cj.size
                · have hA' : (ci.size : Int) ≤ (cj.size : Int) := by omega
                  have d1 : decide ((ci.size : Int) ≤ (cj.size : Int)) = true := decide_eq_true hA'
                  have b2 := HPF.out hij hA
                  have HIJ := Lib.hid hij
                  clear hij
                  by_cases hlt : ci.size < cj.size
                  · have b3 : decide ((ci.size : Int) < (cj.size : Int)) = true := decide_eq_true (by omega)
                    have b4 := HLF.out (.inl hlt)
                    refine reg1 (ops := _) rfl ci cj hin hjn b1 hA hA' d1 b2 hlt b3 b4 CE.out (fun _ _ _ _ _ h => h) ?_
                    intro y88 y89 y90 y91 y92 y93 y94 y95 y96 y97 y98 y99 y100 y101 y102 y103 y104 y105 y106 y107 y108 y109 y110 y111 y112 y113 y114 y115 y116 y117 y118 y119 y120 y121 y122 y123 y124 y125 y126 y127 y128 y129 y130 y131 y132 y133 y134 y135 y136 y137 y138 y139 y140 y141 y142 y143 y144 y145 y146 y147 y148 y149 y150 y151 y152 y153 y154 y155 y156 y157
                    go_wp2_with fail
                    go_meet
                    case rel => exact ⟨rfl, Lib.hid (by repeat (first | exact HBj.out | apply pw_below_drewN | apply below_drew1))⟩
                  · have b3 : decide ((ci.size : Int) < (cj.size : Int)) = false := decide_eq_false (by omega)
                    have b6 : ((ci.size : Int) == (cj.size : Int)) = true := beq_iff_eq.mpr (by omega)
                    by_cases hlt2 : i < j
                    · have b7 : decide ((i : Int) < (j : Int)) = true := decide_eq_true (by omega)
                      have b4 := HLF.out (.inr ⟨by omega, hlt2⟩)
                      refine reg2 (ops := _) rfl ci cj hin hjn b1 hA hA' d1 b2 hlt b3 b6 hlt2 b7 b4 CE.out (fun _ _ _ _ _ h => h) ?_
                      intro y88 y89 y90 y91 y92 y93 y94 y95 y96 y97 y98 y99 y100 y101 y102 y103 y104 y105 y106 y107 y108 y109 y110 y111 y112 y113 y114 y115 y116 y117 y118 y119 y120 y121 y122 y123 y124 y125 y126 y127 y128 y129 y130 y131 y132 y133 y134 y135 y136 y137 y138 y139 y140 y141 y142 y143 y144 y145 y146 y147 y148 y149 y150 y151 y152 y153 y154 y155 y156 y157
                      go_wp2_with fail
                      go_meet
                      case rel => exact ⟨rfl, Lib.hid (by repeat (first | exact HBj.out | apply pw_below_drewN | apply below_drew1))⟩
                    · have b7 : decide ((i : Int) < (j : Int)) = false := decide_eq_false (by omega)
                      refine reg3 (ops := _) rfl ci cj hin hjn b1 hA hA' d1 b2 hlt b3 b6 hlt2 b7 CE.out (fun _ _ _ _ _ h => h) ?_
                      intro y88 y89 y90 y91 y92 y93 y94 y95 y96 y97 y98 y99 y100 y101 y102 y103 y104 y105 y106 y107 y108 y109 y110 y111 y112 y113 y114 y115 y116 y117 y118 y119 y120 y121 y122 y123 y124 y125 y126 y127 y128 y129 y130 y131 y132 y133 y134 y135 y136 y137 y138 y139 y140 y141 y142 y143 y144 y145 y146 y147 y148 y149 y150 y151 y152 y153 y154 y155 y156 y157
                      go_wp2_with fail
                      go_meet
                      case rel => exact ⟨rfl, Lib.hid (by repeat (first | exact HBj.out | apply pw_below_drewN | apply below_drew1))⟩
                · clear hij
                  have d1 : decide ((ci.size : Int) ≤ (cj.size : Int)) = false := decide_eq_false (by omega)
                  have b3 : decide ((ci.size : Int) < (cj.size : Int)) = false := decide_eq_false (by omega)
                  have b6 : ((ci.size : Int) == (cj.size : Int)) = false := beq_eq_false_iff_ne.mpr (by omega)
                  have b8 : ¬ ci.size < cj.size := by omega
                  refine reg4 (ops := _) rfl ci cj hin hjn b1 hA d1 b8 b3 b6 CE.out (fun _ _ _ _ _ h => h) ?_
                  intro y88 y89 y90 y91 y92 y93 y94 y95 y96 y97 y98 y99 y100 y101 y102 y103 y104 y105 y106 y107 y108 y109 y110 y111 y112 y113 y114 y115 y116 y117 y118 y119 y120 y121 y122 y123 y124 y125 y126 y127 y128 y129 y130 y131 y132 y133 y134 y135 y136 y137 y138 y139 y140 y141 y142 y143 y144 y145 y146 y147 y148 y149 y150 y151 y152 y153 y154 y155 y156 y157
                  go_wp2_with fail
                  go_meet
                  case rel => exact ⟨rfl, Lib.hid (by repeat (first | exact HBj.out | apply pw_below_drewN | apply below_drew1))⟩
            case rest =>
              obtain ⟨rfl, HBd⟩ := hcut
              go_wp2_with fail
              exact ⟨⟨j + 1, by go_num, by omega, HBd⟩, by simp [intOf]; omega⟩
          · obtain rfl : j = n := by omega
            go_wp2_with fail
            exact ⟨⟨i + 1, by go_num, by omega, HBj⟩, by simp [intOf]; omega⟩
    · obtain rfl : i = n := by omega
      have HENC : Hid (∀ (A : Option Addr) (c : Nat) (W' : World), Below w4.heap.size w4 W' → Kd.C (Kd.int .i64) W' A (listS ms Q).length (listS ms Q) → (listS ms Q).length ≤ c → Calls Try.prog 44 #[.slice (some ⟨g8, 0, none⟩) i cap8, .slice A (listS ms Q).length c] W' fun e w' => e = .returned (.tuple #[.string t, .int .i64 0]) ∧ Below W'.heap.size W' w') := Lib.hid (fun A c W' hb h1 h2 => by
        have h3 := code_Encode.calls (some ⟨g8, 0, none⟩) cap8 l A c (listS ms Q) t 0 W' (HC8.out W' hb) (by rw [HLN.out]; exact hcp8) h1 h2 HEN.out
        rw [HLN.out] at h3
        exact h3)
      have HDEC : Hid (∀ (W' : World), Below w4.heap.size w4 W' → Calls Try.prog 47 #[.slice (some ⟨g8, 0, none⟩) i cap8, .string t] W' fun e w' => ∃ v, e = .returned (.tuple #[v, .int .i64 0]) ∧ Kd.R (Kd.int .i64) 3 w' W'.heap.size (fun _ => True) v (listS ms Q) ∧ Below W'.heap.size W' w') := Lib.hid (fun W' hb => by
        have h3 := code_Decode.calls (some ⟨g8, 0, none⟩) cap8 l t (listS ms Q) 0 W' (HC8.out W' hb) (by rw [HLN.out]; exact hcp8) HDE.out
        rw [HLN.out] at h3
        exact h3)
      have HINT : Hid (∀ (A : Option Addr) (c : Nat) (B : Option Addr) (d : Nat) (W' : World), Kd.C (Kd.int .i64) W' A (listS ms Q).length (listS ms Q) → (listS ms Q).length ≤ c → Kd.C (Kd.int .i64) W' B (listS ms Q).length (listS ms Q) → (listS ms Q).length ≤ d → Calls Try.prog 46 #[.slice A (listS ms Q).length c, .slice B (listS ms Q).length d] W' fun e w' => e = .returned (.bool true) ∧ Below W'.heap.size W' w') := Lib.hid (fun A c B d W' h1 h2 h3 h4 => (turndownlaw06_ints.calls k A c _ B d _ true W' h1 h2 h3 h4 HIN.out).mono (by rintro e w' ⟨rfl, nd, rfl⟩; exact ⟨rfl, pw_below_drewN (Below.refl _ _) nd⟩))
      have HAWK := Lib.hid (fun W' => turndownlaw06_awake.calls k true W' HAW.out)
      go_wp2_with fail
      go_loopw [15, 16] (fun v15 v16 wq => ∃ q : Nat, v16 = .int .i64 (q : Int) ∧ q ≤ Q ∧ Hid (Kd.R (Kd.int .i64) 3 wq w4.heap.size (fun _ => True) v15 (listS ms q)) ∧ Hid (Below w4.heap.size w4 wq)) (fun _ v16 _ => Q - (intOf v16).toNat)
      case atStart => exact ⟨0, rfl, Nat.zero_le _, Lib.hid (Kd.R_nil _ _ _ _ _), HBr⟩
      case round =>
        rename World => wq
        obtain ⟨q, rfl, hq, HRo, HBq⟩ := hrel
        have hqq := HQ.out
        by_cases hqQ : q < Q
        · have h1n : 1 < i := by
            refine Classical.byContradiction (fun h => ?_)
            rw [if_neg h] at hqq; omega
          rw [if_pos h1n] at hqq
          have hql : q < l1.length := by omega
          have hql' : (q : Int) < (l1.length : Int) := by omega
          have hq200 : (q : Int) < 200 := by omega
          have hq0 : (0 : Int) ≤ (q : Int) := by omega
          have h1n' : (1 : Int) < (i : Int) := by omega
          have hQ200 : Q ≤ 200 := by omega
          clear hqq
          have HMq := Lib.hid (fun W' => mod_d (HMS.out q (by omega) hql) W')
          obtain ⟨ad, hA, hcell⟩ := HRC.out wq (HB4.out.trans (HBq.out.mono HB4.out.size)) q hql
          subst hA
          obtain ⟨xq, hxq⟩ : ∃ xq, l1.getD q 0 = xq := ⟨_, rfl⟩
          rw [hxq] at hcell HMq
          have hlen := listS_len ms q
          have HLEN := Lib.hid hlen
          clear hxq hlen
          go_wp2_with (first | (go_at_call 39; refine (HMq.out _).mono ?_; rintro e w5 ⟨rfl, hB5⟩) | (at_builtin; refine Kd.R_append (Kd.int .i64) (w0 := w4) w4.heap.size rfl (.tmp 174) (.tmp 182) 22 3 (.int .i64 0) 8 rfl Try.underlying22 info3 rfl (by decide) (by omega) _ (listS ms q) (ms q) [.int .i64 (ms q)] (fun _ => True) (fun _ => False) rfl rfl ?aP (fun _ hk => hk.elim) (fun _ _ => trivial) ?aO ?aB ?aS ?aL ?_))
          case aP => exact rfl
          case aO => exact Kd.R_below HRo.out hB5
          case aB => exact HBq.out.trans (hB5.mono HBq.out.size)
          case aS => exact Nat.le_trans HBq.out.size hB5.size
          case aL => rw [HLEN.out]; omega
          intro v1 w6 ho hb hg hat
          have HO6 : Hid (Kd.R (Kd.int .i64) 3 w6 w4.heap.size (fun _ => True) v1 (listS ms (q + 1))) := by rw [listS_next]; exact Lib.hid ho
          have HB6 := Lib.hid hb
          clear ho hb hg hat hcell
          go_wp2_with fail
          exact ⟨⟨q + 1, by go_num, by omega, HO6, HB6⟩, by simp [intOf]; omega⟩
        · obtain rfl : q = Q := by omega
          obtain ⟨A15, c15, e15⟩ := Kd.R_slice HRo.out
          subst e15
          obtain ⟨s, hs⟩ : ∃ s, listS ms q = s := ⟨_, rfl⟩
          rw [hs] at HRo HENC HDEC HINT ⊢
          clear hs HEN HDE HIN
          have hC15 := (Kd.R_reads' HRo.out).2.2
          have hc15 := (Kd.R_reads' HRo.out).2.1
          have HC15 := Lib.hid hC15
          have HCC15 := Lib.hid hc15
          clear hC15 hc15
          have hsl : s.length = s.length := rfl
          by_cases hql : q < l1.length
          · have hql' : (q : Int) < (l1.length : Int) := by omega
            by_cases hq2 : q < 200
            · have hq200 : (q : Int) < 200 := by omega
              have h1n' : ¬ (1 : Int) < (i : Int) := fun h => by
                rw [if_pos (show 1 < i by omega)] at hqq; omega
              clear hqq
              go_wp2_with (first | (go_at_call 44; refine (HENC.out _ _ _ HBq.out HC15.out HCC15.out).mono ?_; rintro e w5 ⟨rfl, hB5⟩) | (go_at_call 47; refine (HDEC.out _ (HBq.out.trans (hB5.mono HBq.out.size))).mono ?_; rintro e w6 ⟨v19, rfl, hR19, hB6⟩; obtain ⟨A19, c19, e19⟩ := Kd.R_slice hR19; subst e19) | (go_at_call 46; refine (HINT.out _ _ _ _ _ (Kd.R_reads' hR19).2.2 (Kd.R_reads' hR19).2.1 (Kd.C_below HC15.out (hB5.trans (hB6.mono hB5.size))) HCC15.out).mono ?_; rintro e w7 ⟨rfl, hB7⟩) | (go_at_call 22; refine (HAWK.out _).mono ?_; rintro e w8 ⟨rfl, hB8⟩))
              go_ret
              have hB4 := HB4.out
              have hBq := HBq.out
              have z1 := hBq.trans (hB5.mono hBq.size)
              have z2 := z1.trans (hB6.mono z1.size)
              have z3 := z2.trans (hB7.mono z2.size)
              have z4 := z3.trans (hB8.mono z3.size)
              exact ⟨rfl, hB4.trans (z4.mono hB4.size)⟩
            · have hq200 : ¬ (q : Int) < 200 := by omega
              clear hqq
              go_wp2_with (first | (go_at_call 44; refine (HENC.out _ _ _ HBq.out HC15.out HCC15.out).mono ?_; rintro e w5 ⟨rfl, hB5⟩) | (go_at_call 47; refine (HDEC.out _ (HBq.out.trans (hB5.mono HBq.out.size))).mono ?_; rintro e w6 ⟨v19, rfl, hR19, hB6⟩; obtain ⟨A19, c19, e19⟩ := Kd.R_slice hR19; subst e19) | (go_at_call 46; refine (HINT.out _ _ _ _ _ (Kd.R_reads' hR19).2.2 (Kd.R_reads' hR19).2.1 (Kd.C_below HC15.out (hB5.trans (hB6.mono hB5.size))) HCC15.out).mono ?_; rintro e w7 ⟨rfl, hB7⟩) | (go_at_call 22; refine (HAWK.out _).mono ?_; rintro e w8 ⟨rfl, hB8⟩))
              go_ret
              have hB4 := HB4.out
              have hBq := HBq.out
              have z1 := hBq.trans (hB5.mono hBq.size)
              have z2 := z1.trans (hB6.mono z1.size)
              have z3 := z2.trans (hB7.mono z2.size)
              have z4 := z3.trans (hB8.mono z3.size)
              exact ⟨rfl, hB4.trans (z4.mono hB4.size)⟩
          · have hql' : ¬ (q : Int) < (l1.length : Int) := by omega
            clear hqq
            go_wp2_with (first | (go_at_call 44; refine (HENC.out _ _ _ HBq.out HC15.out HCC15.out).mono ?_; rintro e w5 ⟨rfl, hB5⟩) | (go_at_call 47; refine (HDEC.out _ (HBq.out.trans (hB5.mono HBq.out.size))).mono ?_; rintro e w6 ⟨v19, rfl, hR19, hB6⟩; obtain ⟨A19, c19, e19⟩ := Kd.R_slice hR19; subst e19) | (go_at_call 46; refine (HINT.out _ _ _ _ _ (Kd.R_reads' hR19).2.2 (Kd.R_reads' hR19).2.1 (Kd.C_below HC15.out (hB5.trans (hB6.mono hB5.size))) HCC15.out).mono ?_; rintro e w7 ⟨rfl, hB7⟩) | (go_at_call 22; refine (HAWK.out _).mono ?_; rintro e w8 ⟨rfl, hB8⟩))
            go_ret
            have hB4 := HB4.out
            have hBq := HBq.out
            have z1 := hBq.trans (hB5.mono hBq.size)
            have z2 := z1.trans (hB6.mono z1.size)
            have z3 := z2.trans (hB7.mono z2.size)
            have z4 := z3.trans (hB8.mono z3.size)
            exact ⟨rfl, hB4.trans (z4.mono hB4.size)⟩
end Go.Proofs.Ytcpojohpmcnnhaa.L

set_option linter.unusedVariables false
set_option linter.unusedSimpArgs false
namespace Go.Proofs.Ytcpojohpmcnnhaa.Pure
open Go.RowKit Go.Proofs.Ytcpojohpmcnnhaa.PA Go.Proofs.YtcpojohpmcnnhaaW.PrintWords Go.Proofs.YtcpojohpmcnnhaaW.PrintLast Go.Proofs.Ytcpojohpmcnnhaa.L Go.Proofs.Ytcpojohpmcnnhaa.A
theorem CodePrefixes (A0 : Option Addr) (c0 : Nat) (l0 : List Int) (A1 : Option Addr) (c1 : Nat) (l1 : List Int) (a2 : Int) (W : World)
    (hr0 : Kd.C (Kd.int .i64) W A0 l0.length l0) (hc0 : l0.length ≤ c0) (_hw0 : ∀ z ∈ l0, (Lit.int .i64 z).wf = true) (hs0 : l0.length * 8 ≤ 140737488351232)
    (hr1 : Kd.C (Kd.int .i64) W A1 l1.length l1) (_hc1 : l1.length ≤ c1) (_hw1 : ∀ z ∈ l1, (Lit.int .i64 z).wf = true) (_hs1 : l1.length * 8 ≤ 140737488351232) (_hw2 : (Lit.int .i64 a2).wf = true) :
    Calls Try.prog 18 #[.slice A0 l0.length c0, .slice A1 l1.length c1, .int .i64 a2] W fun e w' => e = .returned (.bool true) ∧ Below W.heap.size W w' := by
  obtain ⟨w, hwe, hw1, hw20, hwx⟩ := tame_ev l0 (most := 20) (low := 0) (by omega) (by omega) (by omega) (by omega) (by omega)
  have hm := modI_bd a2 (n := 28) (by omega)
  obtain ⟨L, hL⟩ : ∃ L : Nat, 5 + modI a2 28 = (L : Int) := ⟨(5 + modI a2 28).toNat, by omega⟩
  have hwr : wrap64 (5 + modI a2 28) = (L : Int) := by rw [hL]; unfold wrap64; omega
  have hp : (2 : Nat) ^ 5 ≤ 2 ^ L := Nat.pow_le_pow_right (by omega) (by omega)
  have hB := lensB_ok hw1 (by omega) hwx (L := L) (by omega) (by omega)
  have hbr : bestR w (L : Int) = (lensB w L, costW w (lensB w L) w.length 0, 0) := by
    unfold bestR
    rw [if_pos ⟨by rw [lenB_iff.2 (by omega), okB_iff.2 hwx]; rfl, by omega, by omega⟩, Int.toNat_natCast, if_pos (by omega)]
  have hbe := best_ev w (L : Int) (by omega)
  rw [hbr] at hbe
  have hlen := hB.len
  have hok := hB.ok
  have hsum := hB.sum
  obtain ⟨l, hl⟩ : ∃ l, lensB w L = l := ⟨_, rfl⟩
  obtain ⟨c, hc⟩ : ∃ c, costW w (lensB w L) w.length 0 = c := ⟨_, rfl⟩
  rw [hc] at hbe
  rw [hl] at hbe hlen hok hsum
  have hck : checkI l = 0 := by
    unfold checkI
    rw [if_pos (by rw [lenB_iff.2 (by omega), hok]; rfl), if_neg (by omega)]
  have hcd : codeR l = (wordsL l, 0) := by unfold codeR; rw [if_pos hck]
  have hce := code_ev l (by omega)
  rw [hcd] at hce
  obtain ⟨n, hn⟩ : ∃ n, w.length = n := ⟨_, rfl⟩
  rw [hn] at hw1 hw20 hlen
  have hsz : ∀ i, ((wordsL l).getD i ⟨#[]⟩).size = (wordN l i).length := wd_size l
  have hdt : ∀ i, ((wordsL l).getD i ⟨#[]⟩).toList = wordN l i := fun i => by rw [toList_data]; rfl
  have hbits : ∃ K, ∀ i, i < n → ∀ k, K ≤ k → turndownref06_Bits.f k ((wordsL l).getD i ⟨#[]⟩) = some true := by
    refine ev_all (f := fun i k => turndownref06_Bits.f k ((wordsL l).getD i ⟨#[]⟩)) n (fun i hi => ?_)
    have e1 := wordN_len hok (s := i) (by omega)
    have e2 := ok_at hok (s := i) (by omega)
    have h := refBits_ev ((wordsL l).getD i ⟨#[]⟩) (by rw [hsz]; omega)
    have hb : bitsS ((wordsL l).getD i ⟨#[]⟩) = true := by
      unfold bitsS bitsB
      rw [List.all_eq_true]
      intro x hx
      have := wordN_01 (l := l) (s := i) (by omega) x hx
      simpa using this
    rw [hb] at h
    exact h
  obtain ⟨ms, hms⟩ : ∃ ms : Nat → Int, (fun q => modI (l1.getD q 0) (n : Int)) = ms := ⟨_, rfl⟩
  have hmv : ∀ q, ms q = modI (l1.getD q 0) (n : Int) := fun q => by rw [← hms]
  obtain ⟨Q, hQ⟩ : ∃ Q, Q = if 1 < n then min l1.length 200 else 0 := ⟨_, rfl⟩
  have hQ200 : Q ≤ 200 := by rw [hQ]; split <;> omega
  have hS := listS_len ms Q
  have hget : ∀ i, i < Q → (listS ms Q).getD i 0 = ms i := fun i hi => by
    unfold listS
    rw [List.getD_eq_getElem?_getD, List.getElem?_map, List.getElem?_range hi]; rfl
  have hrt := round_trip (l := l) (s := listS ms Q) (by omega) (by omega) hok hsum (by omega) (fun i hi => by
    rw [hS] at hi
    have hb := modI_bd (l1.getD i 0) (n := (n : Int)) (by omega)
    refine ⟨(ms i).toNat, ?_, ?_⟩
    · rw [hget i hi, hmv]; omega
    · rw [hmv]; omega) (fun h => by
    have : Q = 0 := by rw [hQ, if_neg (by omega)]
    rw [this]; rfl)
  obtain ⟨K1, hK1⟩ := hwe
  obtain ⟨K2, hK2⟩ := hbe
  obtain ⟨K3, hK3⟩ := hce
  obtain ⟨K4, hK4⟩ := hbits
  obtain ⟨K5, hK5⟩ := ints_ev (a := listS ms Q) (by omega)
  obtain ⟨K6, hK6⟩ := awake_ev
  obtain ⟨k, hk⟩ : ∃ k, k = K1 + K2 + K3 + K4 + K5 + K6 := ⟨_, rfl⟩
  refine prefixes_c A0 c0 l0 A1 c1 l1 a2 W hr0 hc0 hr1 k n w (hK1 k (by omega)) hn hw1 hw20 (modI a2 28) (mod_all _ (by omega) (by omega)) l c (by rw [hwr]; exact hK2 k (by omega)) hlen
    (wordsL l) (hK3 k (by omega)) (by rw [wordsL_len]; exact hlen) (fun i hi => ?_) (fun i hi => ?_) (fun i hi => hK4 i hi k (by omega)) (fun i j hi hj hne hle => ?_) (fun i j hi hj hlt => ?_)
    ms (fun q _ _ => by rw [hmv]; exact mod_all _ (by omega) (by omega)) Q hQ _ hrt.1 hrt.2 (hK5 k (by omega)) (hK6 k (by omega))
  · rw [hsz]; exact (wordN_len hok (by omega)).symm
  · rw [hsz]
    have e1 := wordN_len hok (s := i) (by omega)
    have e2 := ok_at hok (s := i) (by omega)
    omega
  · rw [hdt, toList_data, beq_eq_false_iff_ne, hsz]
    intro he
    obtain ⟨t, t1, t2, t3⟩ := words_ap hok hsum i j (by omega) (by omega) hne
    have hp : (((wordsL l).getD j ⟨#[]⟩).extract 0 (wordN l i).length).data.toList = piece (wordN l j) 0 (wordN l i).length := extract_piece _ _ _
    rw [hp] at he
    have := piece_at (T := wordN l j) (f := 0) (a := (wordN l i).length) (t := t) (by omega)
    rw [he, Nat.zero_add] at this
    exact t3 this
  · rw [hdt, hdt]
    rw [hsz, hsz] at hlt
    have e1 := wordN_len hok (s := i) (by omega)
    have e2 := wordN_len hok (s := j) (by omega)
    obtain ⟨t, t1, t2, t3, t4, t5⟩ := words_apart hok hsum (s := i) (z := j) (by omega) (by omega) (by unfold lx keyI; omega)
    exact less_true t _ _ t1 t2 t3 t4 t5
end Go.Proofs.Ytcpojohpmcnnhaa.Pure

namespace Go.Proofs.YtcpojohpmcnnhaaW.PrintWords
open Go.ChangeShapes Go.WideShapes
theorem sized_ints {H : Type} {enc : TypeId × Value → H} {P : Program} {W : World} {base : Nat} {spare : Nat → Bool} {held : Bool} {t e : TypeId} {k : IntKind} {a : Option Addr} {len cap : Nat} {d : DataW H} {ps : List MemPlace} {ts : List TypeId} {ds : List (DataW H)} {j : Nat}
    (hsz : (DataW.weightsEach P ts ds).all (· ≤ reachBytes) = true) (ht : ts[j]? = some t) (hd : ds[j]? = some d) (hu : P.underlying t = some (.slice e)) (he : P.underlying e = some (.int k)) (hc : P.cellsOf e = 1) {B : Nat} (hB : P.bytesOf e = B)
    (h : DataW.Trod enc P W base spare held t (.slice a len cap) d ps) : len * B ≤ 140737488351232 := by
  obtain ⟨fuel, hf⟩ := h
  rcases open_ints hu he hc hf with ⟨hcs, _⟩ | ⟨x, l, c, zs, hcs, _, hl, _, hz, hx, _, _⟩
  · simp [Value.cells] at hcs
    obtain ⟨rfl, rfl, rfl⟩ := hcs
    simp
  · simp [Value.cells] at hcs
    obtain ⟨rfl, rfl, rfl⟩ := hcs
    obtain ⟨hx, _⟩ := Prod.mk.inj hx
    subst hx
    have z := sized_slice hsz ht hd hu
    rw [hB] at z
    have hl2 : len ≤ zs.length := by
      rw [hz]
      split
      · exact hl
      · exact Nat.le_refl _
    have h1 : (lits (H := H) k (zs.take len)).length + (lits (H := H) k (zs.drop len)).length = zs.length := by
      simp [lits]
      omega
    rw [h1] at z
    exact Nat.le_trans (Nat.mul_le_mul_right _ hl2) z
end Go.Proofs.YtcpojohpmcnnhaaW.PrintWords

set_option linter.unusedVariables false
set_option linter.unusedSimpArgs false
namespace Go.Proofs.Ytcpojohpmcnnhaa.E
open Go.ChangeShapes Go.WideShapes Go.ChangeAt Go.RowKit Go.Deep
open Go.Proofs.YtcpojohpmcnnhaaW.PrintWords Go.Proofs.YtcpojohpmcnnhaaW.PrintLast Go.Proofs.YtcpojohpmcnnhaaW.PrintMore
open Go.Proofs.Ytcpojohpmcnnhaa.PA
theorem own : ownKnob Try.prog.godebug = none := by kernel_rfl
theorem laidOut : laidOutB Try.prog = true := by kernel_rfl
variable {H : Type} {enc : TypeId × Value → H}
end Go.Proofs.Ytcpojohpmcnnhaa.E

set_option linter.unusedVariables false
set_option linter.unusedSimpArgs false
namespace Go.Proofs.Ytcpojohpmcnnhaa.E
open Go.ChangeShapes Go.WideShapes Go.ChangeAt Go.RowKit Go.Deep
open Go.Proofs.YtcpojohpmcnnhaaW.PrintWords Go.Proofs.YtcpojohpmcnnhaaW.PrintLast Go.Proofs.YtcpojohpmcnnhaaW.PrintMore
open Go.Proofs.Ytcpojohpmcnnhaa.PA
variable {H : Type} {enc : TypeId × Value → H}
set_option maxRecDepth 100000 in
theorem open_is {W : World} {a : Option Addr} {len cap : Nat} {d : DataW H} {p : List MemPlace} (h : DataW.Trod enc Try.prog W 0 (fun _ => true) true 22 (.slice a len cap) d p) :
    ∃ xs : List Int, xs.length = len ∧ len ≤ cap ∧ Kd.C (Kd.int .i64) W a len xs ∧ ∀ x ∈ xs, (Lit.int .i64 x).wf = true := by
  obtain ⟨fuel, hf⟩ := h
  rcases open_ints Try.underlying22 Try.underlying3 (by kernel_rfl) hf with ⟨hcs, _⟩ | ⟨x, l, c, zs, hcs, _, hl, hm, hz, _, hcell, hwz⟩
  · simp [Value.cells] at hcs
    obtain ⟨rfl, rfl, rfl⟩ := hcs
    exact ⟨[], rfl, Nat.le_refl _, ⟨rfl, by omega, fun h => by omega⟩, fun x hx => by simp at hx⟩
  · simp [Value.cells] at hcs
    obtain ⟨rfl, rfl, rfl⟩ := hcs
    simp only [if_true] at hz
    refine ⟨zs.take len, by rw [List.length_take]; omega, hl, ⟨by rw [List.length_take]; omega, by unfold maxLen at hm; omega, fun _ => ⟨x, rfl, fun j p hp => ?_⟩⟩, fun s hs => hwz s (List.mem_of_mem_take hs)⟩
    have hj : j < len := by have := (List.getElem?_eq_some_iff.1 hp).1; rw [List.length_take] at this; omega
    rw [List.getElem?_take_of_lt hj] at hp
    have h1 := hcell j (by omega)
    rw [List.getD_eq_getElem?_getD, hp] at h1
    refine ⟨[.int .i64 p], rfl, rfl, fun i u hu => ?_⟩
    match i, hu with
    | 0, hu => simp at hu; subst hu; show W.cell? (x.add (j * 1 + 0)) = _; rw [Nat.mul_one, Nat.add_zero]; simpa using h1
    | i + 1, hu => simp at hu
end Go.Proofs.Ytcpojohpmcnnhaa.E

set_option linter.unusedVariables false
set_option linter.unusedSimpArgs false
namespace Go.Proofs.Ytcpojohpmcnnhaa.codePrefixes
open Go.ChangeShapes Go.WideShapes Go.ChangeAt Go.RowKit
open Go.ChangeMaps (open_string shut_string)
open Go.Proofs.Ytcpojohpmcnnhaa.E
set_option maxRecDepth 100000 in
theorem lifted (os : Os) (started : os.Started) (H : Type) (enc : TypeId × Value → H) :
  ReturnsInHanded {} Try.checked os 18 .any (Rows.codePrefixesSpec.pre6 enc Try.prog Try.f18 Rows.codePrefixesRow.domain false) (Rows.codePrefixesSpec.post enc Try.prog Try.f18 false true false false) := by
 refine returnsInHanded_of_change_sized (C := Try.checked) own started (by kernel_rfl) Try.func18
  (ChangeSpec.witness6 (enc := enc) (C := Try.checked) false ⟨#[], #[.slice none 0 0, .slice none 0 0, .int .i64 0], []⟩ 8 (by kernel_rfl) (by kernel_rfl) (by kernel_rfl) (by kernel_rfl)) ?_
 intro W base args ds gs before hval0 hW hcnd hsz0 _
 have hsz : (DataW.weightsEach Try.prog (Try.f18.params.toList ++ Rows.codePrefixesSpec.plain.varTypes Try.prog) (ds ++ gs)).all (· ≤ reachBytes) = true := hsz0
 have hval : ∀ (j : Nat) t v, Try.f18.params[j]? = some t → args[j]? = some v → Value.okWide Try.prog W .any base t v := hval0
 have hW' := hW
 obtain ⟨p, q, hA0, hV, rfl, hfz, hnd⟩ := hW
 have hA : DataW.TrodAll enc Try.prog W 0 (fun _ => true) true Try.f18.params.toList args.toList ds p := hA0
 rw [Try.params18] at hA hval hsz
 obtain ⟨v0, vs0, d0, ds0, p0, q0, hargs, rfl, rfl, h0, r0⟩ := trodAll_cons hA
 obtain ⟨v1, vs1, d1, ds1, p1, q1, rfl, rfl, rfl, h1, r1⟩ := trodAll_cons r0
 obtain ⟨v2, vs2, d2, ds2, p2, q2, rfl, rfl, rfl, h2, r2⟩ := trodAll_cons r1
 obtain ⟨rfl, rfl, rfl⟩ := trodAll_nil r2
 obtain rfl : args = #[v0, v1, v2] := by cases args; simp_all
 obtain ⟨rfl, rfl⟩ := trodVars_none hV
 have k0 := h0
 have lt0 : ∀ x ∈ p0, x.block < W.heap.size := by obtain ⟨m, hm⟩ := k0; exact DataW.trod_lt m _ _ _ hm
 obtain ⟨a0, len0, cap0, rfl⟩ := okWide_slice Try.underlying22 (hval 0 22 v0 rfl rfl)
 have s0 : len0 * 8 ≤ 140737488351232 := Go.Proofs.YtcpojohpmcnnhaaW.PrintWords.sized_ints hsz (j := 0) (t := 22) rfl rfl Try.underlying22 Try.underlying3 (by kernel_rfl) (by kernel_rfl) h0
 obtain ⟨x0, rfl, y0, z0, w0⟩ := open_is h0
 have k1 := h1
 have lt1 : ∀ x ∈ p1, x.block < W.heap.size := by obtain ⟨m, hm⟩ := k1; exact DataW.trod_lt m _ _ _ hm
 obtain ⟨a1, len1, cap1, rfl⟩ := okWide_slice Try.underlying22 (hval 1 22 v1 rfl rfl)
 have s1 : len1 * 8 ≤ 140737488351232 := Go.Proofs.YtcpojohpmcnnhaaW.PrintWords.sized_ints hsz (j := 1) (t := 22) rfl rfl Try.underlying22 Try.underlying3 (by kernel_rfl) (by kernel_rfl) h1
 obtain ⟨x1, rfl, y1, z1, w1⟩ := open_is h1
 obtain ⟨a2, rfl, rfl, rfl, w2⟩ := open_int Try.underlying3 (hval 2 3 v2 rfl rfl) h2
 clear hA0 hval0 hsz0 hsz
 refine (Pure.CodePrefixes a0 cap0 x0 a1 cap1 x1 a2 W z0 y0 w0 s0 z1 y1 w1 s1 w2).mono fun e W' ⟨he, bel⟩ => ?_
 subst he
 exact ⟨_, rfl, _, _, _, [], _, [], hW', trodAll_mk1 (shut_bool Try.underlying4 _), (trodAll_cons_mk (Below.trod laidOut (by kernel_rfl) (of_decide_eq_true (by kernel_rfl)) k0 bel lt0) (trodAll_cons_mk (Below.trod laidOut (by kernel_rfl) (of_decide_eq_true (by kernel_rfl)) k1 bel lt1) (trodAll_cons_mk (shut_int Try.underlying3 w2) trodAll_mk0))), rfl, bel.frame _, fun h => by cases h⟩
theorem over : Rows.codePrefixesRow.holds Try.pinned (OpenSpec.ofChange Rows.codePrefixesSpec) :=
 OpenClaim.holds_of_wide 18 Try.f18 rfl rfl rfl rfl rfl rfl rfl ⟨rfl, rfl, rfl, rfl, rfl⟩ rfl rfl rfl rfl rfl (by kernel_rfl) Try.func18 (by kernel_rfl)
  (of_decide_eq_true (by kernel_rfl)) (by unfold Func.isWrapper; first | (rw [if_pos (by decide +kernel)]; kernel_rfl) | (rw [if_neg (by decide +kernel)]; exact ⟨rfl, rfl⟩))
  (fun os started H enc _ => lifted os started H enc)
theorem proved : Rows.CodePrefixesSaid := over
end Go.Proofs.Ytcpojohpmcnnhaa.codePrefixes
namespace Go.Proofs.Ytcpojohpmcnnhaa
theorem codePrefixes_holds : Rows.CodePrefixesSaid := codePrefixes.proved
end Go.Proofs.Ytcpojohpmcnnhaa
