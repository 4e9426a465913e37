/- What the statements of this seat lean on: the functions that they reach, walked. -/
import Derived.Test.YtakbijpcfnipoaaRows
import Derived.WalkKit
import Derived.ProofKit
import Derived.OpenShut
import Derived.ShutString
import Derived.ChangeOld
import Derived.Below
import Derived.SizedLaws
import Derived.Deep.Slices
import Derived.Deep.Strs
import Derived.Lib.SmallJoins
import Derived.Test.YtakbijpcfnipoaaZm11
set_option linter.unusedSimpArgs false
set_option linter.unusedVariables false

set_option linter.unusedVariables false
set_option linter.unusedSimpArgs false
namespace Go.Proofs.Ytakbijpcfnipoaa.E
open Go.ChangeShapes Go.WideShapes Go.ChangeAt Go.RowKit Go.Deep
open Go.Proofs.YtakbijpcfnipoaaW.PrintWords Go.Proofs.YtakbijpcfnipoaaW.PrintLast Go.Proofs.YtakbijpcfnipoaaW.PrintMore
open Go.Proofs.Ytakbijpcfnipoaa.PA
theorem own : ownKnob Try.prog.godebug = none := by kernel_rfl
theorem laidOut : laidOutB Try.prog = true := by kernel_rfl
variable {H : Type} {enc : TypeId × Value → H}
set_option maxRecDepth 100000 in
theorem open_cells {W : World} {cs : List Value} {d : DataW H} {p : List MemPlace} {fuel : Nat} (hf : DataW.trod enc Try.prog W 0 (fun _ => true) true fuel 22 cs = some (d, p)) :
    ∃ a len cap, ∃ xs : List Int, cs = [.slice a len cap] ∧ xs.length = len ∧ len ≤ cap ∧ Kd.C (Kd.int .i64) W a len xs ∧ ∀ x ∈ xs, (Lit.int .i64 x).wf = true := by
  rcases open_ints Try.underlying22 Try.underlying3 (by kernel_rfl) hf with ⟨hcs, _⟩ | ⟨x, l, c, zs, hcs, _, hl, hm, hz, _, hcell, hwz⟩
  · exact ⟨none, 0, 0, [], hcs, rfl, Nat.le_refl _, ⟨rfl, by omega, fun h => by omega⟩, fun x hx => by simp at hx⟩
  · simp only [if_true] at hz
    refine ⟨some x, l, c, zs.take l, hcs, by rw [List.length_take]; omega, hl, ⟨by rw [List.length_take]; omega, by unfold maxLen at hm; omega, fun _ => ⟨x, rfl, fun j p hp => ?_⟩⟩, fun s hs => hwz s (List.mem_of_mem_take hs)⟩
    have hj : j < l := by have := (List.getElem?_eq_some_iff.1 hp).1; rw [List.length_take] at this; omega
    rw [List.getElem?_take_of_lt hj] at hp
    have h1 := hcell j (by omega)
    rw [List.getD_eq_getElem?_getD, hp] at h1
    refine ⟨[.int .i64 p], rfl, rfl, fun i u hu => ?_⟩
    match i, hu with
    | 0, hu => simp at hu; subst hu; show W.cell? (x.add (j * 1 + 0)) = _; rw [Nat.mul_one, Nat.add_zero]; simpa using h1
    | i + 1, hu => simp at hu
theorem open_is {W : World} {a : Option Addr} {len cap : Nat} {d : DataW H} {p : List MemPlace} (h : DataW.Trod enc Try.prog W 0 (fun _ => true) true 22 (.slice a len cap) d p) :
    ∃ xs : List Int, xs.length = len ∧ len ≤ cap ∧ Kd.C (Kd.int .i64) W a len xs ∧ ∀ x ∈ xs, (Lit.int .i64 x).wf = true := by
  obtain ⟨fuel, hf⟩ := h
  obtain ⟨a', l', c', xs, hcs, h1, h2, h3, h4⟩ := open_cells hf
  simp [Value.cells] at hcs
  obtain ⟨rfl, rfl, rfl⟩ := hcs
  exact ⟨xs, h1, h2, h3, h4⟩
end Go.Proofs.Ytakbijpcfnipoaa.E

set_option linter.unusedVariables false
set_option linter.unusedSimpArgs false
namespace Go.Proofs.Ytakbijpcfnipoaa.E
open Go.ChangeShapes Go.WideShapes Go.ChangeAt Go.RowKit Go.Deep
open Go.Proofs.YtakbijpcfnipoaaW.PrintWords Go.Proofs.YtakbijpcfnipoaaW.PrintLast Go.Proofs.YtakbijpcfnipoaaW.PrintMore
open Go.Proofs.Ytakbijpcfnipoaa.PA
variable {H : Type} {enc : TypeId × Value → H}
theorem okWide_array {P : Program} {w : World} {r : Reach} {base : Nat} {t e : TypeId} {n : Nat} {v : Value} (ht : P.underlying t = some (.array n e)) (h : Value.okWide P w r base t v) : ∃ cs, v = .agg cs ∧ cs.size = P.cellsOf t := by
  simp only [Value.okWide, ht] at h
  obtain ⟨cs, h1, h2, _⟩ := h
  exact ⟨cs, h1, h2⟩
theorem arr2 : ∀ {cs : Array Value}, cs.size = 2 → ∃ a b, cs = #[a, b] := by
  rintro ⟨l⟩ h
  match l, h with
  | [a, b], _ => exact ⟨a, b, rfl⟩
set_option maxRecDepth 100000 in
theorem open_two {W : World} {base : Nat} {v : Value} {d : DataW H} {p : List MemPlace} (hv : Value.okWide Try.prog W .any base 45 v) (h : DataW.Trod enc Try.prog W 0 (fun _ => true) true 45 v d p) :
    ∃ a0 c0 x0 a1 c1 x1, v = .agg #[.slice a0 (x0 : List Int).length c0, .slice a1 (x1 : List Int).length c1] ∧ x0.length ≤ c0 ∧ Kd.C (Kd.int .i64) W a0 x0.length x0 ∧ x1.length ≤ c1 ∧ Kd.C (Kd.int .i64) W a1 x1.length x1 := by
  have e1 : Try.prog.cellsOf 22 = 1 := by kernel_rfl
  have e2 : Try.prog.cellsOf 45 = 2 := by kernel_rfl
  obtain ⟨cs, rfl, hsz⟩ := okWide_array Try.underlying45 hv
  obtain ⟨fuel, hf⟩ := h
  obtain ⟨xs, m, _, _, _, hl, hel⟩ := DataW.trod_array Try.underlying45 hf
  obtain ⟨y0, y1, rfl⟩ := arr2 (cs := cs) (by omega)
  have key : ∀ i, i < 2 → ∃ a len cap, ∃ x : List Int, ((Value.agg #[y0, y1]).cells.toList.drop i).take 1 = [.slice a len cap] ∧ x.length = len ∧ len ≤ cap ∧ Kd.C (Kd.int .i64) W a len x := by
    intro i hi
    have h1 := hel i hi
    rw [e1, Nat.mul_one] at h1
    rw [List.getElem?_eq_getElem (by omega)] at h1
    obtain ⟨a, l, c, x, g0, g1, g2, g3, _⟩ := open_cells h1
    exact ⟨a, l, c, x, g0, g1, g2, g3⟩
  obtain ⟨a0, _, c0, x0, g0, rfl, g2, g3⟩ := key 0 (by omega)
  obtain ⟨a1, _, c1, x1, k0, rfl, k2, k3⟩ := key 1 (by omega)
  simp [Value.cells] at g0 k0
  exact ⟨a0, c0, x0, a1, c1, x1, by rw [g0, k0], g2, g3, k2, k3⟩
end Go.Proofs.Ytakbijpcfnipoaa.E
