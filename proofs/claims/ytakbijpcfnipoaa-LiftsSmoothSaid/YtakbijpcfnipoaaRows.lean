/-
  No cell of these rows narrows 'for every input' (looked for: loops, veiled, ifaces, maps, wideKeys, modest, calm, conditions, laid).
  DERIVED. THE GIVEN ROWS OF THIS SEAT. 11 by the template 'for every input the law returns true; each argument reads behind the call as it read before'; 0 by the template 'total and deterministic' (their statements: YtakbijpcfnipoaaTotals.lean).
  GIVEN WITH THE SEED: the statements are not yours to turn. If you find one false, say at which input.
  Laid BY PROGRAM, IN A SANDBOX (cutbox-rows.mjs): the forced cells as the released guide's own fill.sh prints them over the translation f51f90c4908c11b6… (all of the seat's roots in one cut). By AI agents, Wed Nov 11 2026. No macro, syntax, notation, axiom, sorry.
-/
import Derived.Test.YtakbijpcfnipoaaChecked
import GoSem.Claim
import GoSem.ClaimJoined
import GoSem.ClaimMapViews
import Derived.JoinedTies
import Derived.KernelRfl
namespace Go.Proofs.Ytakbijpcfnipoaa
/- THE CELL 'sum', in the pinned program and in every row, IS THE sha256 OF THE DUMP (.gsa) THAT YtakbijpcfnipoaaProg.lean LOADS. Nothing in Lean hashes anything: it is a label: what it is worth is what the hold of that sum in a sandbox is worth. -/
noncomputable def Try.pinned : Pinned := { name := "ytakbijpcfnipoaa", sum := "f51f90c4908c11b6b09e0093dab62f50106214005c6a713b0ed3a1b2f5a07e30", checked := Try.checked }
namespace Rows
def none {H : Type} : Left H := { results := [], args := [] }

/-- 'turndownlaw07.LiftsCosts': WHATEVER THE INPUT: true; the input reads as it did. -/
def liftsCostsSpec : ChangeSpec := { name := "liftsCosts", fn := fun _ => fun
  | [d1, d2, d3] => { results := [.lit (.bool true)], args := [d1, d2, d3] }
  | _ => none }
def liftsCostsRow : OpenClaim := { program := "ytakbijpcfnipoaa", sum := "f51f90c4908c11b6b09e0093dab62f50106214005c6a713b0ed3a1b2f5a07e30", func := "turndown/turndownlaw07.LiftsCosts", spec := "liftsCosts", unfollowed := true, recurses := true, plainKeys := false, apart := false }
def LiftsCostsSaid : Prop := liftsCostsRow.holds Try.pinned (OpenSpec.ofChange liftsCostsSpec)

/-- ITS FALSE NEIGHBOUR: 'it returns false'. Refute it at one input. -/
def liftsCostsWrong : ChangeSpec := { name := "liftsCosts", fn := fun _ => fun
  | [d1, d2, d3] => { results := [.lit (.bool false)], args := [d1, d2, d3] }
  | _ => none }
def LiftsCostsWrongFalsely : Prop := liftsCostsRow.holds Try.pinned (OpenSpec.ofChange liftsCostsWrong)

/-- 'turndownlaw07.LiftsBest': WHATEVER THE INPUT: true; the input reads as it did. -/
def liftsBestSpec : ChangeSpec := { name := "liftsBest", fn := fun _ => fun
  | [d1, d2] => { results := [.lit (.bool true)], args := [d1, d2] }
  | _ => none }
def liftsBestRow : OpenClaim := { program := "ytakbijpcfnipoaa", sum := "f51f90c4908c11b6b09e0093dab62f50106214005c6a713b0ed3a1b2f5a07e30", func := "turndown/turndownlaw07.LiftsBest", spec := "liftsBest", unfollowed := true, recurses := true, plainKeys := false, apart := false }
def LiftsBestSaid : Prop := liftsBestRow.holds Try.pinned (OpenSpec.ofChange liftsBestSpec)

/-- ITS FALSE NEIGHBOUR: 'it returns false'. Refute it at one input. -/
def liftsBestWrong : ChangeSpec := { name := "liftsBest", fn := fun _ => fun
  | [d1, d2] => { results := [.lit (.bool false)], args := [d1, d2] }
  | _ => none }
def LiftsBestWrongFalsely : Prop := liftsBestRow.holds Try.pinned (OpenSpec.ofChange liftsBestWrong)

/-- 'turndownlaw07.LiftsWorks': WHATEVER THE INPUT: true; the input reads as it did. -/
def liftsWorksSpec : ChangeSpec := { name := "liftsWorks", fn := fun _ => fun
  | [d1, d2, d3] => { results := [.lit (.bool true)], args := [d1, d2, d3] }
  | _ => none }
def liftsWorksRow : OpenClaim := { program := "ytakbijpcfnipoaa", sum := "f51f90c4908c11b6b09e0093dab62f50106214005c6a713b0ed3a1b2f5a07e30", func := "turndown/turndownlaw07.LiftsWorks", spec := "liftsWorks", unfollowed := true, recurses := true, plainKeys := false, apart := false }
def LiftsWorksSaid : Prop := liftsWorksRow.holds Try.pinned (OpenSpec.ofChange liftsWorksSpec)

/-- ITS FALSE NEIGHBOUR: 'it returns false'. Refute it at one input. -/
def liftsWorksWrong : ChangeSpec := { name := "liftsWorks", fn := fun _ => fun
  | [d1, d2, d3] => { results := [.lit (.bool false)], args := [d1, d2, d3] }
  | _ => none }
def LiftsWorksWrongFalsely : Prop := liftsWorksRow.holds Try.pinned (OpenSpec.ofChange liftsWorksWrong)

/-- 'turndownlaw07.LiftsPotentials': WHATEVER THE INPUT: true; the input reads as it did. -/
def liftsPotentialsSpec : ChangeSpec := { name := "liftsPotentials", fn := fun _ => fun
  | [d1, d2] => { results := [.lit (.bool true)], args := [d1, d2] }
  | _ => none }
def liftsPotentialsRow : OpenClaim := { program := "ytakbijpcfnipoaa", sum := "f51f90c4908c11b6b09e0093dab62f50106214005c6a713b0ed3a1b2f5a07e30", func := "turndown/turndownlaw07.LiftsPotentials", spec := "liftsPotentials", unfollowed := true, recurses := true, plainKeys := false, apart := false }
def LiftsPotentialsSaid : Prop := liftsPotentialsRow.holds Try.pinned (OpenSpec.ofChange liftsPotentialsSpec)

/-- ITS FALSE NEIGHBOUR: 'it returns false'. Refute it at one input. -/
def liftsPotentialsWrong : ChangeSpec := { name := "liftsPotentials", fn := fun _ => fun
  | [d1, d2] => { results := [.lit (.bool false)], args := [d1, d2] }
  | _ => none }
def LiftsPotentialsWrongFalsely : Prop := liftsPotentialsRow.holds Try.pinned (OpenSpec.ofChange liftsPotentialsWrong)

/-- 'turndownlaw07.LiftsCompetes': WHATEVER THE INPUT: true; the input reads as it did. -/
def liftsCompetesSpec : ChangeSpec := { name := "liftsCompetes", fn := fun _ => fun
  | [d1, d2, d3] => { results := [.lit (.bool true)], args := [d1, d2, d3] }
  | _ => none }
def liftsCompetesRow : OpenClaim := { program := "ytakbijpcfnipoaa", sum := "f51f90c4908c11b6b09e0093dab62f50106214005c6a713b0ed3a1b2f5a07e30", func := "turndown/turndownlaw07.LiftsCompetes", spec := "liftsCompetes", unfollowed := true, recurses := true, plainKeys := false, apart := false }
def LiftsCompetesSaid : Prop := liftsCompetesRow.holds Try.pinned (OpenSpec.ofChange liftsCompetesSpec)

/-- ITS FALSE NEIGHBOUR: 'it returns false'. Refute it at one input. -/
def liftsCompetesWrong : ChangeSpec := { name := "liftsCompetes", fn := fun _ => fun
  | [d1, d2, d3] => { results := [.lit (.bool false)], args := [d1, d2, d3] }
  | _ => none }
def LiftsCompetesWrongFalsely : Prop := liftsCompetesRow.holds Try.pinned (OpenSpec.ofChange liftsCompetesWrong)

/-- 'turndownlaw07.LiftsSmooth': WHATEVER THE INPUT: true; the input reads as it did. -/
def liftsSmoothSpec : ChangeSpec := { name := "liftsSmooth", fn := fun _ => fun
  | [d1, d2, d3] => { results := [.lit (.bool true)], args := [d1, d2, d3] }
  | _ => none }
def liftsSmoothRow : OpenClaim := { program := "ytakbijpcfnipoaa", sum := "f51f90c4908c11b6b09e0093dab62f50106214005c6a713b0ed3a1b2f5a07e30", func := "turndown/turndownlaw07.LiftsSmooth", spec := "liftsSmooth", unfollowed := true, recurses := true, plainKeys := false, apart := false }
def LiftsSmoothSaid : Prop := liftsSmoothRow.holds Try.pinned (OpenSpec.ofChange liftsSmoothSpec)

/-- ITS FALSE NEIGHBOUR: 'it returns false'. Refute it at one input. -/
def liftsSmoothWrong : ChangeSpec := { name := "liftsSmooth", fn := fun _ => fun
  | [d1, d2, d3] => { results := [.lit (.bool false)], args := [d1, d2, d3] }
  | _ => none }
def LiftsSmoothWrongFalsely : Prop := liftsSmoothRow.holds Try.pinned (OpenSpec.ofChange liftsSmoothWrong)

/-- 'turndownlaw07.LiftsShifts': WHATEVER THE INPUT: true; the input reads as it did. -/
def liftsShiftsSpec : ChangeSpec := { name := "liftsShifts", fn := fun _ => fun
  | [d1, d2, d3] => { results := [.lit (.bool true)], args := [d1, d2, d3] }
  | _ => none }
def liftsShiftsRow : OpenClaim := { program := "ytakbijpcfnipoaa", sum := "f51f90c4908c11b6b09e0093dab62f50106214005c6a713b0ed3a1b2f5a07e30", func := "turndown/turndownlaw07.LiftsShifts", spec := "liftsShifts", unfollowed := true, recurses := true, plainKeys := false, apart := false }
def LiftsShiftsSaid : Prop := liftsShiftsRow.holds Try.pinned (OpenSpec.ofChange liftsShiftsSpec)

/-- ITS FALSE NEIGHBOUR: 'it returns false'. Refute it at one input. -/
def liftsShiftsWrong : ChangeSpec := { name := "liftsShifts", fn := fun _ => fun
  | [d1, d2, d3] => { results := [.lit (.bool false)], args := [d1, d2, d3] }
  | _ => none }
def LiftsShiftsWrongFalsely : Prop := liftsShiftsRow.holds Try.pinned (OpenSpec.ofChange liftsShiftsWrong)

/-- 'turndownlaw07.LiftsForesees': WHATEVER THE INPUT: true; the input reads as it did. -/
def liftsForeseesSpec : ChangeSpec := { name := "liftsForesees", fn := fun _ => fun
  | [d1, d2] => { results := [.lit (.bool true)], args := [d1, d2] }
  | _ => none }
def liftsForeseesRow : OpenClaim := { program := "ytakbijpcfnipoaa", sum := "f51f90c4908c11b6b09e0093dab62f50106214005c6a713b0ed3a1b2f5a07e30", func := "turndown/turndownlaw07.LiftsForesees", spec := "liftsForesees", unfollowed := true, recurses := true, plainKeys := false, apart := false }
def LiftsForeseesSaid : Prop := liftsForeseesRow.holds Try.pinned (OpenSpec.ofChange liftsForeseesSpec)

/-- ITS FALSE NEIGHBOUR: 'it returns false'. Refute it at one input. -/
def liftsForeseesWrong : ChangeSpec := { name := "liftsForesees", fn := fun _ => fun
  | [d1, d2] => { results := [.lit (.bool false)], args := [d1, d2] }
  | _ => none }
def LiftsForeseesWrongFalsely : Prop := liftsForeseesRow.holds Try.pinned (OpenSpec.ofChange liftsForeseesWrong)

/-- 'turndownlaw07.LiftsOwn': WHATEVER THE INPUT: true; the input reads as it did. -/
def liftsOwnSpec : ChangeSpec := { name := "liftsOwn", fn := fun _ => fun
  | [d1, d2] => { results := [.lit (.bool true)], args := [d1, d2] }
  | _ => none }
def liftsOwnRow : OpenClaim := { program := "ytakbijpcfnipoaa", sum := "f51f90c4908c11b6b09e0093dab62f50106214005c6a713b0ed3a1b2f5a07e30", func := "turndown/turndownlaw07.LiftsOwn", spec := "liftsOwn", unfollowed := true, recurses := true, plainKeys := false, apart := false }
def LiftsOwnSaid : Prop := liftsOwnRow.holds Try.pinned (OpenSpec.ofChange liftsOwnSpec)

/-- ITS FALSE NEIGHBOUR: 'it returns false'. Refute it at one input. -/
def liftsOwnWrong : ChangeSpec := { name := "liftsOwn", fn := fun _ => fun
  | [d1, d2] => { results := [.lit (.bool false)], args := [d1, d2] }
  | _ => none }
def LiftsOwnWrongFalsely : Prop := liftsOwnRow.holds Try.pinned (OpenSpec.ofChange liftsOwnWrong)

/-- 'turndownlaw07.LiftsServes': WHATEVER THE INPUT: true; the input reads as it did. -/
def liftsServesSpec : ChangeSpec := { name := "liftsServes", fn := fun _ => fun
  | [d1, d2] => { results := [.lit (.bool true)], args := [d1, d2] }
  | _ => none }
def liftsServesRow : OpenClaim := { program := "ytakbijpcfnipoaa", sum := "f51f90c4908c11b6b09e0093dab62f50106214005c6a713b0ed3a1b2f5a07e30", func := "turndown/turndownlaw07.LiftsServes", spec := "liftsServes", unfollowed := true, recurses := true, plainKeys := false, apart := false }
def LiftsServesSaid : Prop := liftsServesRow.holds Try.pinned (OpenSpec.ofChange liftsServesSpec)

/-- ITS FALSE NEIGHBOUR: 'it returns false'. Refute it at one input. -/
def liftsServesWrong : ChangeSpec := { name := "liftsServes", fn := fun _ => fun
  | [d1, d2] => { results := [.lit (.bool false)], args := [d1, d2] }
  | _ => none }
def LiftsServesWrongFalsely : Prop := liftsServesRow.holds Try.pinned (OpenSpec.ofChange liftsServesWrong)

/-- 'turndownlaw07.LiftsLeast': WHATEVER THE INPUT: true; the input reads as it did. -/
def liftsLeastSpec : ChangeSpec := { name := "liftsLeast", fn := fun _ => fun
  | [d1, d2, d3] => { results := [.lit (.bool true)], args := [d1, d2, d3] }
  | _ => none }
def liftsLeastRow : OpenClaim := { program := "ytakbijpcfnipoaa", sum := "f51f90c4908c11b6b09e0093dab62f50106214005c6a713b0ed3a1b2f5a07e30", func := "turndown/turndownlaw07.LiftsLeast", spec := "liftsLeast", unfollowed := true, recurses := true, plainKeys := false, apart := false }
def LiftsLeastSaid : Prop := liftsLeastRow.holds Try.pinned (OpenSpec.ofChange liftsLeastSpec)

/-- ITS FALSE NEIGHBOUR: 'it returns false'. Refute it at one input. -/
def liftsLeastWrong : ChangeSpec := { name := "liftsLeast", fn := fun _ => fun
  | [d1, d2, d3] => { results := [.lit (.bool false)], args := [d1, d2, d3] }
  | _ => none }
def LiftsLeastWrongFalsely : Prop := liftsLeastRow.holds Try.pinned (OpenSpec.ofChange liftsLeastWrong)

/- THE SECOND FORM. 'bulk': how many values and letters a reading holds, each counted each time it is reached (what is shared counts as often as it is met; a slice's spare places count too). A statement '..UptoSaid' is the law's where the arguments, and the package variables that the reading takes, are together of bulk at most 1048576: NARROWER than '..Said'. Prove '..Said' where nothing that the law and all that it calls make is longer than what came in: it says more and counts as full. Else prove '..UptoSaid'. A law counts once. -/
mutual
def uptoBulk {H : Type} : DataW H → Nat
  | .lit (.string bytes) => bytes.length + 1
  | .lit _ => 1
  | .nil => 1
  | .ptr d => uptoBulk d + 1
  | .slice elems spare => uptoBulkAll elems + uptoBulkAll spare + 1
  | .agg parts => uptoBulkAll parts + 1
  | .iface _ d => uptoBulk d + 1
  | .map entries => uptoBulkEntries entries + 1
  | .held _ => 1
def uptoBulkAll {H : Type} : List (DataW H) → Nat
  | [] => 0
  | d :: r => uptoBulk d + uptoBulkAll r
def uptoBulkEntries {H : Type} : List (Lit × DataW H) → Nat
  | [] => 0
  | x :: r => uptoBulkEntry x + uptoBulkEntries r
def uptoBulkEntry {H : Type} : Lit × DataW H → Nat
  | (.string bytes, d) => bytes.length + uptoBulk d + 1
  | (_, d) => uptoBulk d + 1
 end
def uptoSmall : (H : Type) → List (DataW H) → Bool := fun _ ds => decide (uptoBulkAll ds ≤ 1048576)
def OpenSpec.upto (s : _root_.Go.ChangeSpec) : _root_.Go.OpenSpec := { _root_.Go.OpenSpec.ofChange s with cond := some uptoSmall }

/-- 'turndownlaw07.LiftsCosts', WHERE WHAT IT READS IS OF BULK AT MOST 1048576: true; the input reads as it did. -/
def liftsCostsUptoRow : OpenClaim := { program := "ytakbijpcfnipoaa", sum := "f51f90c4908c11b6b09e0093dab62f50106214005c6a713b0ed3a1b2f5a07e30", func := "turndown/turndownlaw07.LiftsCosts", spec := "liftsCosts", unfollowed := true, recurses := true, plainKeys := false, apart := false, narrowed := true }
def LiftsCostsUptoSaid : Prop := liftsCostsUptoRow.holds Try.pinned (OpenSpec.upto liftsCostsSpec)

/-- 'turndownlaw07.LiftsBest', WHERE WHAT IT READS IS OF BULK AT MOST 1048576: true; the input reads as it did. -/
def liftsBestUptoRow : OpenClaim := { program := "ytakbijpcfnipoaa", sum := "f51f90c4908c11b6b09e0093dab62f50106214005c6a713b0ed3a1b2f5a07e30", func := "turndown/turndownlaw07.LiftsBest", spec := "liftsBest", unfollowed := true, recurses := true, plainKeys := false, apart := false, narrowed := true }
def LiftsBestUptoSaid : Prop := liftsBestUptoRow.holds Try.pinned (OpenSpec.upto liftsBestSpec)

/-- 'turndownlaw07.LiftsWorks', WHERE WHAT IT READS IS OF BULK AT MOST 1048576: true; the input reads as it did. -/
def liftsWorksUptoRow : OpenClaim := { program := "ytakbijpcfnipoaa", sum := "f51f90c4908c11b6b09e0093dab62f50106214005c6a713b0ed3a1b2f5a07e30", func := "turndown/turndownlaw07.LiftsWorks", spec := "liftsWorks", unfollowed := true, recurses := true, plainKeys := false, apart := false, narrowed := true }
def LiftsWorksUptoSaid : Prop := liftsWorksUptoRow.holds Try.pinned (OpenSpec.upto liftsWorksSpec)

/-- 'turndownlaw07.LiftsPotentials', WHERE WHAT IT READS IS OF BULK AT MOST 1048576: true; the input reads as it did. -/
def liftsPotentialsUptoRow : OpenClaim := { program := "ytakbijpcfnipoaa", sum := "f51f90c4908c11b6b09e0093dab62f50106214005c6a713b0ed3a1b2f5a07e30", func := "turndown/turndownlaw07.LiftsPotentials", spec := "liftsPotentials", unfollowed := true, recurses := true, plainKeys := false, apart := false, narrowed := true }
def LiftsPotentialsUptoSaid : Prop := liftsPotentialsUptoRow.holds Try.pinned (OpenSpec.upto liftsPotentialsSpec)

/-- 'turndownlaw07.LiftsCompetes', WHERE WHAT IT READS IS OF BULK AT MOST 1048576: true; the input reads as it did. -/
def liftsCompetesUptoRow : OpenClaim := { program := "ytakbijpcfnipoaa", sum := "f51f90c4908c11b6b09e0093dab62f50106214005c6a713b0ed3a1b2f5a07e30", func := "turndown/turndownlaw07.LiftsCompetes", spec := "liftsCompetes", unfollowed := true, recurses := true, plainKeys := false, apart := false, narrowed := true }
def LiftsCompetesUptoSaid : Prop := liftsCompetesUptoRow.holds Try.pinned (OpenSpec.upto liftsCompetesSpec)

/-- 'turndownlaw07.LiftsSmooth', WHERE WHAT IT READS IS OF BULK AT MOST 1048576: true; the input reads as it did. -/
def liftsSmoothUptoRow : OpenClaim := { program := "ytakbijpcfnipoaa", sum := "f51f90c4908c11b6b09e0093dab62f50106214005c6a713b0ed3a1b2f5a07e30", func := "turndown/turndownlaw07.LiftsSmooth", spec := "liftsSmooth", unfollowed := true, recurses := true, plainKeys := false, apart := false, narrowed := true }
def LiftsSmoothUptoSaid : Prop := liftsSmoothUptoRow.holds Try.pinned (OpenSpec.upto liftsSmoothSpec)

/-- 'turndownlaw07.LiftsShifts', WHERE WHAT IT READS IS OF BULK AT MOST 1048576: true; the input reads as it did. -/
def liftsShiftsUptoRow : OpenClaim := { program := "ytakbijpcfnipoaa", sum := "f51f90c4908c11b6b09e0093dab62f50106214005c6a713b0ed3a1b2f5a07e30", func := "turndown/turndownlaw07.LiftsShifts", spec := "liftsShifts", unfollowed := true, recurses := true, plainKeys := false, apart := false, narrowed := true }
def LiftsShiftsUptoSaid : Prop := liftsShiftsUptoRow.holds Try.pinned (OpenSpec.upto liftsShiftsSpec)

/-- 'turndownlaw07.LiftsForesees', WHERE WHAT IT READS IS OF BULK AT MOST 1048576: true; the input reads as it did. -/
def liftsForeseesUptoRow : OpenClaim := { program := "ytakbijpcfnipoaa", sum := "f51f90c4908c11b6b09e0093dab62f50106214005c6a713b0ed3a1b2f5a07e30", func := "turndown/turndownlaw07.LiftsForesees", spec := "liftsForesees", unfollowed := true, recurses := true, plainKeys := false, apart := false, narrowed := true }
def LiftsForeseesUptoSaid : Prop := liftsForeseesUptoRow.holds Try.pinned (OpenSpec.upto liftsForeseesSpec)

/-- 'turndownlaw07.LiftsOwn', WHERE WHAT IT READS IS OF BULK AT MOST 1048576: true; the input reads as it did. -/
def liftsOwnUptoRow : OpenClaim := { program := "ytakbijpcfnipoaa", sum := "f51f90c4908c11b6b09e0093dab62f50106214005c6a713b0ed3a1b2f5a07e30", func := "turndown/turndownlaw07.LiftsOwn", spec := "liftsOwn", unfollowed := true, recurses := true, plainKeys := false, apart := false, narrowed := true }
def LiftsOwnUptoSaid : Prop := liftsOwnUptoRow.holds Try.pinned (OpenSpec.upto liftsOwnSpec)

/-- 'turndownlaw07.LiftsServes', WHERE WHAT IT READS IS OF BULK AT MOST 1048576: true; the input reads as it did. -/
def liftsServesUptoRow : OpenClaim := { program := "ytakbijpcfnipoaa", sum := "f51f90c4908c11b6b09e0093dab62f50106214005c6a713b0ed3a1b2f5a07e30", func := "turndown/turndownlaw07.LiftsServes", spec := "liftsServes", unfollowed := true, recurses := true, plainKeys := false, apart := false, narrowed := true }
def LiftsServesUptoSaid : Prop := liftsServesUptoRow.holds Try.pinned (OpenSpec.upto liftsServesSpec)

/-- 'turndownlaw07.LiftsLeast', WHERE WHAT IT READS IS OF BULK AT MOST 1048576: true; the input reads as it did. -/
def liftsLeastUptoRow : OpenClaim := { program := "ytakbijpcfnipoaa", sum := "f51f90c4908c11b6b09e0093dab62f50106214005c6a713b0ed3a1b2f5a07e30", func := "turndown/turndownlaw07.LiftsLeast", spec := "liftsLeast", unfollowed := true, recurses := true, plainKeys := false, apart := false, narrowed := true }
def LiftsLeastUptoSaid : Prop := liftsLeastUptoRow.holds Try.pinned (OpenSpec.upto liftsLeastSpec)

end Rows
end Go.Proofs.Ytakbijpcfnipoaa
