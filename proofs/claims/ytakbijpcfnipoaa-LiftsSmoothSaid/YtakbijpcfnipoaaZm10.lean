/- What the statements of this seat lean on: the functions that they reach, walked. -/
import Derived.Test.YtakbijpcfnipoaaZm9
set_option linter.unusedSimpArgs false
set_option linter.unusedVariables false

set_option linter.unusedVariables false
set_option linter.unusedSimpArgs false
namespace Go.Proofs.Ytakbijpcfnipoaa.L
open Go.RowKit Go.Proofs.YtakbijpcfnipoaaW.PrintWords Go.Proofs.YtakbijpcfnipoaaW.PrintLast Go.Proofs.YtakbijpcfnipoaaW.PrintMore
open Go.Proofs.Ytakbijpcfnipoaa.PA Go.Proofs.Ytakbijpcfnipoaa.A Go.Proofs.Ytakbijpcfnipoaa.Lf
theorem Env.rebase {w W : World} {I : RI} {T : RT} (h : Env w W I T) : Env W W I T := ⟨Below.refl _ _, h.is, h.ts⟩
theorem Env.lead {w W W' : World} {I I' : RI} {T T' : RT} (h : Env w W I T) (h2 : Env W W' I' T') : Env w W' I' T' := ⟨h.bel.trans (h2.bel.mono h.bel.size), h2.is, h2.ts⟩
theorem dist_E {w W : World} {I : RI} {T : RT} (h : Env w W I T) {A0 A1 : Option Addr} {c0 c1 : Nat} {a b : List Int} (m0 : (A0, c0, a) ∈ I) (m1 : (A1, c1, b) ∈ I) {k : Nat} (hk3 : k ≤ 3) (ha : Pos k a) (hb : Pos k b) {r : Int} (hr : dist a b = r) :
    Calls Try.prog 35 #[.slice A0 a.length c0, .slice A1 b.length c1] W fun e w' => e = .returned (.int .i64 r) ∧ Env w w' I T := by
  obtain ⟨n, hn⟩ := Ev.rounds (distance_ev (by rw [ha.len, hb.len]) (by rw [ha.len]; omega) ha.rng hb.rng)
  rw [hr] at hn
  refine (turndownref07_Distance.calls n A0 c0 a A1 c1 b _ W (h.is _ m0).1 (h.is _ m0).2 (h.is _ m1).1 (h.is _ m1).2 hn).mono ?_
  rintro e w' ⟨rfl, hb⟩
  exact ⟨rfl, h.below hb⟩
end Go.Proofs.Ytakbijpcfnipoaa.L
