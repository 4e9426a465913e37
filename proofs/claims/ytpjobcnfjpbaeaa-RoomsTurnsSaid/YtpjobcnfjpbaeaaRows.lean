/-
  No cell of these rows narrows 'for every input' (looked for: loops, veiled, ifaces, maps, wideKeys, modest, calm, conditions, laid).
  DERIVED. THE GIVEN ROWS OF THIS SEAT. 11 by the template 'for every input the law returns true; each argument reads behind the call as it read before'; 0 by the template 'total and deterministic' (their statements: YtpjobcnfjpbaeaaTotals.lean).
  GIVEN WITH THE SEED: the statements are not yours to turn. If you find one false, say at which input.
  Laid BY PROGRAM, IN A SANDBOX (cutbox-rows.mjs): the forced cells as the released guide's own fill.sh prints them over the translation 6faea89a86b0af1d… (all of the seat's roots in one cut). By AI agents, Wed Nov 11 2026. No macro, syntax, notation, axiom, sorry.
-/
import Derived.Test.YtpjobcnfjpbaeaaChecked
import GoSem.Claim
import GoSem.ClaimJoined
import GoSem.ClaimMapViews
import Derived.JoinedTies
import Derived.KernelRfl
namespace Go.Proofs.Ytpjobcnfjpbaeaa
/- THE CELL 'sum', in the pinned program and in every row, IS THE sha256 OF THE DUMP (.gsa) THAT YtpjobcnfjpbaeaaProg.lean LOADS. Nothing in Lean hashes anything: it is a label: what it is worth is what the hold of that sum in a sandbox is worth. -/
noncomputable def Try.pinned : Pinned := { name := "ytpjobcnfjpbaeaa", sum := "6faea89a86b0af1dc47917cd2af933b82981587d7f85c5746922a3fba7cfe67d", checked := Try.checked }
namespace Rows
def none {H : Type} : Left H := { results := [], args := [] }

/-- 'turndownlaw08.RoomsQuotes': WHATEVER THE INPUT: true; the input reads as it did. -/
def roomsQuotesSpec : ChangeSpec := { name := "roomsQuotes", fn := fun _ => fun
  | [d1, d2, d3] => { results := [.lit (.bool true)], args := [d1, d2, d3] }
  | _ => none }
def roomsQuotesRow : OpenClaim := { program := "ytpjobcnfjpbaeaa", sum := "6faea89a86b0af1dc47917cd2af933b82981587d7f85c5746922a3fba7cfe67d", func := "turndown/turndownlaw08.RoomsQuotes", spec := "roomsQuotes", unfollowed := true, recurses := true, plainKeys := false, apart := false }
def RoomsQuotesSaid : Prop := roomsQuotesRow.holds Try.pinned (OpenSpec.ofChange roomsQuotesSpec)

/-- ITS FALSE NEIGHBOUR: 'it returns false'. Refute it at one input. -/
def roomsQuotesWrong : ChangeSpec := { name := "roomsQuotes", fn := fun _ => fun
  | [d1, d2, d3] => { results := [.lit (.bool false)], args := [d1, d2, d3] }
  | _ => none }
def RoomsQuotesWrongFalsely : Prop := roomsQuotesRow.holds Try.pinned (OpenSpec.ofChange roomsQuotesWrong)

/-- 'turndownlaw08.RoomsBounds': WHATEVER THE INPUT: true; the input reads as it did. -/
def roomsBoundsSpec : ChangeSpec := { name := "roomsBounds", fn := fun _ => fun
  | [d1, d2, d3] => { results := [.lit (.bool true)], args := [d1, d2, d3] }
  | _ => none }
def roomsBoundsRow : OpenClaim := { program := "ytpjobcnfjpbaeaa", sum := "6faea89a86b0af1dc47917cd2af933b82981587d7f85c5746922a3fba7cfe67d", func := "turndown/turndownlaw08.RoomsBounds", spec := "roomsBounds", unfollowed := true, recurses := true, plainKeys := false, apart := false }
def RoomsBoundsSaid : Prop := roomsBoundsRow.holds Try.pinned (OpenSpec.ofChange roomsBoundsSpec)

/-- ITS FALSE NEIGHBOUR: 'it returns false'. Refute it at one input. -/
def roomsBoundsWrong : ChangeSpec := { name := "roomsBounds", fn := fun _ => fun
  | [d1, d2, d3] => { results := [.lit (.bool false)], args := [d1, d2, d3] }
  | _ => none }
def RoomsBoundsWrongFalsely : Prop := roomsBoundsRow.holds Try.pinned (OpenSpec.ofChange roomsBoundsWrong)

/-- 'turndownlaw08.RoomsMore': WHATEVER THE INPUT: true; the input reads as it did. -/
def roomsMoreSpec : ChangeSpec := { name := "roomsMore", fn := fun _ => fun
  | [d1, d2, d3] => { results := [.lit (.bool true)], args := [d1, d2, d3] }
  | _ => none }
def roomsMoreRow : OpenClaim := { program := "ytpjobcnfjpbaeaa", sum := "6faea89a86b0af1dc47917cd2af933b82981587d7f85c5746922a3fba7cfe67d", func := "turndown/turndownlaw08.RoomsMore", spec := "roomsMore", unfollowed := true, recurses := true, plainKeys := false, apart := false }
def RoomsMoreSaid : Prop := roomsMoreRow.holds Try.pinned (OpenSpec.ofChange roomsMoreSpec)

/-- ITS FALSE NEIGHBOUR: 'it returns false'. Refute it at one input. -/
def roomsMoreWrong : ChangeSpec := { name := "roomsMore", fn := fun _ => fun
  | [d1, d2, d3] => { results := [.lit (.bool false)], args := [d1, d2, d3] }
  | _ => none }
def RoomsMoreWrongFalsely : Prop := roomsMoreRow.holds Try.pinned (OpenSpec.ofChange roomsMoreWrong)

/-- 'turndownlaw08.RoomsWorth': WHATEVER THE INPUT: true; the input reads as it did. -/
def roomsWorthSpec : ChangeSpec := { name := "roomsWorth", fn := fun _ => fun
  | [d1, d2, d3] => { results := [.lit (.bool true)], args := [d1, d2, d3] }
  | _ => none }
def roomsWorthRow : OpenClaim := { program := "ytpjobcnfjpbaeaa", sum := "6faea89a86b0af1dc47917cd2af933b82981587d7f85c5746922a3fba7cfe67d", func := "turndown/turndownlaw08.RoomsWorth", spec := "roomsWorth", unfollowed := true, recurses := true, plainKeys := false, apart := false }
def RoomsWorthSaid : Prop := roomsWorthRow.holds Try.pinned (OpenSpec.ofChange roomsWorthSpec)

/-- ITS FALSE NEIGHBOUR: 'it returns false'. Refute it at one input. -/
def roomsWorthWrong : ChangeSpec := { name := "roomsWorth", fn := fun _ => fun
  | [d1, d2, d3] => { results := [.lit (.bool false)], args := [d1, d2, d3] }
  | _ => none }
def RoomsWorthWrongFalsely : Prop := roomsWorthRow.holds Try.pinned (OpenSpec.ofChange roomsWorthWrong)

/-- 'turndownlaw08.RoomsTurned': WHATEVER THE INPUT: true; the input reads as it did. -/
def roomsTurnedSpec : ChangeSpec := { name := "roomsTurned", fn := fun _ => fun
  | [d1, d2, d3] => { results := [.lit (.bool true)], args := [d1, d2, d3] }
  | _ => none }
def roomsTurnedRow : OpenClaim := { program := "ytpjobcnfjpbaeaa", sum := "6faea89a86b0af1dc47917cd2af933b82981587d7f85c5746922a3fba7cfe67d", func := "turndown/turndownlaw08.RoomsTurned", spec := "roomsTurned", unfollowed := true, recurses := true, plainKeys := false, apart := false }
def RoomsTurnedSaid : Prop := roomsTurnedRow.holds Try.pinned (OpenSpec.ofChange roomsTurnedSpec)

/-- ITS FALSE NEIGHBOUR: 'it returns false'. Refute it at one input. -/
def roomsTurnedWrong : ChangeSpec := { name := "roomsTurned", fn := fun _ => fun
  | [d1, d2, d3] => { results := [.lit (.bool false)], args := [d1, d2, d3] }
  | _ => none }
def RoomsTurnedWrongFalsely : Prop := roomsTurnedRow.holds Try.pinned (OpenSpec.ofChange roomsTurnedWrong)

/-- 'turndownlaw08.RoomsOwn': WHATEVER THE INPUT: true; the input reads as it did. -/
def roomsOwnSpec : ChangeSpec := { name := "roomsOwn", fn := fun _ => fun
  | [d1, d2] => { results := [.lit (.bool true)], args := [d1, d2] }
  | _ => none }
def roomsOwnRow : OpenClaim := { program := "ytpjobcnfjpbaeaa", sum := "6faea89a86b0af1dc47917cd2af933b82981587d7f85c5746922a3fba7cfe67d", func := "turndown/turndownlaw08.RoomsOwn", spec := "roomsOwn", unfollowed := true, recurses := true, plainKeys := false, apart := false }
def RoomsOwnSaid : Prop := roomsOwnRow.holds Try.pinned (OpenSpec.ofChange roomsOwnSpec)

/-- ITS FALSE NEIGHBOUR: 'it returns false'. Refute it at one input. -/
def roomsOwnWrong : ChangeSpec := { name := "roomsOwn", fn := fun _ => fun
  | [d1, d2] => { results := [.lit (.bool false)], args := [d1, d2] }
  | _ => none }
def RoomsOwnWrongFalsely : Prop := roomsOwnRow.holds Try.pinned (OpenSpec.ofChange roomsOwnWrong)

/-- 'turndownlaw08.RoomsAssigns': WHATEVER THE INPUT: true; the input reads as it did. -/
def roomsAssignsSpec : ChangeSpec := { name := "roomsAssigns", fn := fun _ => fun
  | [d] => { results := [.lit (.bool true)], args := [d] }
  | _ => none }
def roomsAssignsRow : OpenClaim := { program := "ytpjobcnfjpbaeaa", sum := "6faea89a86b0af1dc47917cd2af933b82981587d7f85c5746922a3fba7cfe67d", func := "turndown/turndownlaw08.RoomsAssigns", spec := "roomsAssigns", unfollowed := true, recurses := true, plainKeys := false, apart := false }
def RoomsAssignsSaid : Prop := roomsAssignsRow.holds Try.pinned (OpenSpec.ofChange roomsAssignsSpec)

/-- ITS FALSE NEIGHBOUR: 'it returns false'. Refute it at one input. -/
def roomsAssignsWrong : ChangeSpec := { name := "roomsAssigns", fn := fun _ => fun
  | [d] => { results := [.lit (.bool false)], args := [d] }
  | _ => none }
def RoomsAssignsWrongFalsely : Prop := roomsAssignsRow.holds Try.pinned (OpenSpec.ofChange roomsAssignsWrong)

/-- 'turndownlaw08.RoomsEnough': WHATEVER THE INPUT: true; the input reads as it did. -/
def roomsEnoughSpec : ChangeSpec := { name := "roomsEnough", fn := fun _ => fun
  | [d] => { results := [.lit (.bool true)], args := [d] }
  | _ => none }
def roomsEnoughRow : OpenClaim := { program := "ytpjobcnfjpbaeaa", sum := "6faea89a86b0af1dc47917cd2af933b82981587d7f85c5746922a3fba7cfe67d", func := "turndown/turndownlaw08.RoomsEnough", spec := "roomsEnough", unfollowed := true, recurses := true, plainKeys := false, apart := false }
def RoomsEnoughSaid : Prop := roomsEnoughRow.holds Try.pinned (OpenSpec.ofChange roomsEnoughSpec)

/-- ITS FALSE NEIGHBOUR: 'it returns false'. Refute it at one input. -/
def roomsEnoughWrong : ChangeSpec := { name := "roomsEnough", fn := fun _ => fun
  | [d] => { results := [.lit (.bool false)], args := [d] }
  | _ => none }
def RoomsEnoughWrongFalsely : Prop := roomsEnoughRow.holds Try.pinned (OpenSpec.ofChange roomsEnoughWrong)

/-- 'turndownlaw08.RoomsAccepts': WHATEVER THE INPUT: true; the input reads as it did. -/
def roomsAcceptsSpec : ChangeSpec := { name := "roomsAccepts", fn := fun _ => fun
  | [d1, d2] => { results := [.lit (.bool true)], args := [d1, d2] }
  | _ => none }
def roomsAcceptsRow : OpenClaim := { program := "ytpjobcnfjpbaeaa", sum := "6faea89a86b0af1dc47917cd2af933b82981587d7f85c5746922a3fba7cfe67d", func := "turndown/turndownlaw08.RoomsAccepts", spec := "roomsAccepts", unfollowed := true, recurses := true, plainKeys := false, apart := false }
def RoomsAcceptsSaid : Prop := roomsAcceptsRow.holds Try.pinned (OpenSpec.ofChange roomsAcceptsSpec)

/-- ITS FALSE NEIGHBOUR: 'it returns false'. Refute it at one input. -/
def roomsAcceptsWrong : ChangeSpec := { name := "roomsAccepts", fn := fun _ => fun
  | [d1, d2] => { results := [.lit (.bool false)], args := [d1, d2] }
  | _ => none }
def RoomsAcceptsWrongFalsely : Prop := roomsAcceptsRow.holds Try.pinned (OpenSpec.ofChange roomsAcceptsWrong)

/-- 'turndownlaw08.RoomsChecks': WHATEVER THE INPUT: true; the input reads as it did. -/
def roomsChecksSpec : ChangeSpec := { name := "roomsChecks", fn := fun _ => fun
  | [d1, d2, d3] => { results := [.lit (.bool true)], args := [d1, d2, d3] }
  | _ => none }
def roomsChecksRow : OpenClaim := { program := "ytpjobcnfjpbaeaa", sum := "6faea89a86b0af1dc47917cd2af933b82981587d7f85c5746922a3fba7cfe67d", func := "turndown/turndownlaw08.RoomsChecks", spec := "roomsChecks", unfollowed := true, recurses := true, plainKeys := false, apart := false }
def RoomsChecksSaid : Prop := roomsChecksRow.holds Try.pinned (OpenSpec.ofChange roomsChecksSpec)

/-- ITS FALSE NEIGHBOUR: 'it returns false'. Refute it at one input. -/
def roomsChecksWrong : ChangeSpec := { name := "roomsChecks", fn := fun _ => fun
  | [d1, d2, d3] => { results := [.lit (.bool false)], args := [d1, d2, d3] }
  | _ => none }
def RoomsChecksWrongFalsely : Prop := roomsChecksRow.holds Try.pinned (OpenSpec.ofChange roomsChecksWrong)

/-- 'turndownlaw08.RoomsTurns': WHATEVER THE INPUT: true; the input reads as it did. -/
def roomsTurnsSpec : ChangeSpec := { name := "roomsTurns", fn := fun _ => fun
  | [d1, d2] => { results := [.lit (.bool true)], args := [d1, d2] }
  | _ => none }
def roomsTurnsRow : OpenClaim := { program := "ytpjobcnfjpbaeaa", sum := "6faea89a86b0af1dc47917cd2af933b82981587d7f85c5746922a3fba7cfe67d", func := "turndown/turndownlaw08.RoomsTurns", spec := "roomsTurns", unfollowed := true, recurses := true, plainKeys := false, apart := false }
def RoomsTurnsSaid : Prop := roomsTurnsRow.holds Try.pinned (OpenSpec.ofChange roomsTurnsSpec)

/-- ITS FALSE NEIGHBOUR: 'it returns false'. Refute it at one input. -/
def roomsTurnsWrong : ChangeSpec := { name := "roomsTurns", fn := fun _ => fun
  | [d1, d2] => { results := [.lit (.bool false)], args := [d1, d2] }
  | _ => none }
def RoomsTurnsWrongFalsely : Prop := roomsTurnsRow.holds Try.pinned (OpenSpec.ofChange roomsTurnsWrong)

/- THE SECOND FORM. 'bulk': how many values and letters a reading holds, each counted each time it is reached (what is shared counts as often as it is met; a slice's spare places count too). A statement '..UptoSaid' is the law's where the arguments, and the package variables that the reading takes, are together of bulk at most 1048576: NARROWER than '..Said'. Prove '..Said' where nothing that the law and all that it calls make is longer than what came in: it says more and counts as full. Else prove '..UptoSaid'. A law counts once. -/
mutual
def uptoBulk {H : Type} : DataW H → Nat
  | .lit (.string bytes) => bytes.length + 1
  | .lit _ => 1
  | .nil => 1
  | .ptr d => uptoBulk d + 1
  | .slice elems spare => uptoBulkAll elems + uptoBulkAll spare + 1
  | .agg parts => uptoBulkAll parts + 1
  | .iface _ d => uptoBulk d + 1
  | .map entries => uptoBulkEntries entries + 1
  | .held _ => 1
def uptoBulkAll {H : Type} : List (DataW H) → Nat
  | [] => 0
  | d :: r => uptoBulk d + uptoBulkAll r
def uptoBulkEntries {H : Type} : List (Lit × DataW H) → Nat
  | [] => 0
  | x :: r => uptoBulkEntry x + uptoBulkEntries r
def uptoBulkEntry {H : Type} : Lit × DataW H → Nat
  | (.string bytes, d) => bytes.length + uptoBulk d + 1
  | (_, d) => uptoBulk d + 1
 end
def uptoSmall : (H : Type) → List (DataW H) → Bool := fun _ ds => decide (uptoBulkAll ds ≤ 1048576)
def OpenSpec.upto (s : _root_.Go.ChangeSpec) : _root_.Go.OpenSpec := { _root_.Go.OpenSpec.ofChange s with cond := some uptoSmall }

/-- 'turndownlaw08.RoomsQuotes', WHERE WHAT IT READS IS OF BULK AT MOST 1048576: true; the input reads as it did. -/
def roomsQuotesUptoRow : OpenClaim := { program := "ytpjobcnfjpbaeaa", sum := "6faea89a86b0af1dc47917cd2af933b82981587d7f85c5746922a3fba7cfe67d", func := "turndown/turndownlaw08.RoomsQuotes", spec := "roomsQuotes", unfollowed := true, recurses := true, plainKeys := false, apart := false, narrowed := true }
def RoomsQuotesUptoSaid : Prop := roomsQuotesUptoRow.holds Try.pinned (OpenSpec.upto roomsQuotesSpec)

/-- 'turndownlaw08.RoomsBounds', WHERE WHAT IT READS IS OF BULK AT MOST 1048576: true; the input reads as it did. -/
def roomsBoundsUptoRow : OpenClaim := { program := "ytpjobcnfjpbaeaa", sum := "6faea89a86b0af1dc47917cd2af933b82981587d7f85c5746922a3fba7cfe67d", func := "turndown/turndownlaw08.RoomsBounds", spec := "roomsBounds", unfollowed := true, recurses := true, plainKeys := false, apart := false, narrowed := true }
def RoomsBoundsUptoSaid : Prop := roomsBoundsUptoRow.holds Try.pinned (OpenSpec.upto roomsBoundsSpec)

/-- 'turndownlaw08.RoomsMore', WHERE WHAT IT READS IS OF BULK AT MOST 1048576: true; the input reads as it did. -/
def roomsMoreUptoRow : OpenClaim := { program := "ytpjobcnfjpbaeaa", sum := "6faea89a86b0af1dc47917cd2af933b82981587d7f85c5746922a3fba7cfe67d", func := "turndown/turndownlaw08.RoomsMore", spec := "roomsMore", unfollowed := true, recurses := true, plainKeys := false, apart := false, narrowed := true }
def RoomsMoreUptoSaid : Prop := roomsMoreUptoRow.holds Try.pinned (OpenSpec.upto roomsMoreSpec)

/-- 'turndownlaw08.RoomsWorth', WHERE WHAT IT READS IS OF BULK AT MOST 1048576: true; the input reads as it did. -/
def roomsWorthUptoRow : OpenClaim := { program := "ytpjobcnfjpbaeaa", sum := "6faea89a86b0af1dc47917cd2af933b82981587d7f85c5746922a3fba7cfe67d", func := "turndown/turndownlaw08.RoomsWorth", spec := "roomsWorth", unfollowed := true, recurses := true, plainKeys := false, apart := false, narrowed := true }
def RoomsWorthUptoSaid : Prop := roomsWorthUptoRow.holds Try.pinned (OpenSpec.upto roomsWorthSpec)

/-- 'turndownlaw08.RoomsTurned', WHERE WHAT IT READS IS OF BULK AT MOST 1048576: true; the input reads as it did. -/
def roomsTurnedUptoRow : OpenClaim := { program := "ytpjobcnfjpbaeaa", sum := "6faea89a86b0af1dc47917cd2af933b82981587d7f85c5746922a3fba7cfe67d", func := "turndown/turndownlaw08.RoomsTurned", spec := "roomsTurned", unfollowed := true, recurses := true, plainKeys := false, apart := false, narrowed := true }
def RoomsTurnedUptoSaid : Prop := roomsTurnedUptoRow.holds Try.pinned (OpenSpec.upto roomsTurnedSpec)

/-- 'turndownlaw08.RoomsOwn', WHERE WHAT IT READS IS OF BULK AT MOST 1048576: true; the input reads as it did. -/
def roomsOwnUptoRow : OpenClaim := { program := "ytpjobcnfjpbaeaa", sum := "6faea89a86b0af1dc47917cd2af933b82981587d7f85c5746922a3fba7cfe67d", func := "turndown/turndownlaw08.RoomsOwn", spec := "roomsOwn", unfollowed := true, recurses := true, plainKeys := false, apart := false, narrowed := true }
def RoomsOwnUptoSaid : Prop := roomsOwnUptoRow.holds Try.pinned (OpenSpec.upto roomsOwnSpec)

/-- 'turndownlaw08.RoomsAssigns', WHERE WHAT IT READS IS OF BULK AT MOST 1048576: true; the input reads as it did. -/
def roomsAssignsUptoRow : OpenClaim := { program := "ytpjobcnfjpbaeaa", sum := "6faea89a86b0af1dc47917cd2af933b82981587d7f85c5746922a3fba7cfe67d", func := "turndown/turndownlaw08.RoomsAssigns", spec := "roomsAssigns", unfollowed := true, recurses := true, plainKeys := false, apart := false, narrowed := true }
def RoomsAssignsUptoSaid : Prop := roomsAssignsUptoRow.holds Try.pinned (OpenSpec.upto roomsAssignsSpec)

/-- 'turndownlaw08.RoomsEnough', WHERE WHAT IT READS IS OF BULK AT MOST 1048576: true; the input reads as it did. -/
def roomsEnoughUptoRow : OpenClaim := { program := "ytpjobcnfjpbaeaa", sum := "6faea89a86b0af1dc47917cd2af933b82981587d7f85c5746922a3fba7cfe67d", func := "turndown/turndownlaw08.RoomsEnough", spec := "roomsEnough", unfollowed := true, recurses := true, plainKeys := false, apart := false, narrowed := true }
def RoomsEnoughUptoSaid : Prop := roomsEnoughUptoRow.holds Try.pinned (OpenSpec.upto roomsEnoughSpec)

/-- 'turndownlaw08.RoomsAccepts', WHERE WHAT IT READS IS OF BULK AT MOST 1048576: true; the input reads as it did. -/
def roomsAcceptsUptoRow : OpenClaim := { program := "ytpjobcnfjpbaeaa", sum := "6faea89a86b0af1dc47917cd2af933b82981587d7f85c5746922a3fba7cfe67d", func := "turndown/turndownlaw08.RoomsAccepts", spec := "roomsAccepts", unfollowed := true, recurses := true, plainKeys := false, apart := false, narrowed := true }
def RoomsAcceptsUptoSaid : Prop := roomsAcceptsUptoRow.holds Try.pinned (OpenSpec.upto roomsAcceptsSpec)

/-- 'turndownlaw08.RoomsChecks', WHERE WHAT IT READS IS OF BULK AT MOST 1048576: true; the input reads as it did. -/
def roomsChecksUptoRow : OpenClaim := { program := "ytpjobcnfjpbaeaa", sum := "6faea89a86b0af1dc47917cd2af933b82981587d7f85c5746922a3fba7cfe67d", func := "turndown/turndownlaw08.RoomsChecks", spec := "roomsChecks", unfollowed := true, recurses := true, plainKeys := false, apart := false, narrowed := true }
def RoomsChecksUptoSaid : Prop := roomsChecksUptoRow.holds Try.pinned (OpenSpec.upto roomsChecksSpec)

/-- 'turndownlaw08.RoomsTurns', WHERE WHAT IT READS IS OF BULK AT MOST 1048576: true; the input reads as it did. -/
def roomsTurnsUptoRow : OpenClaim := { program := "ytpjobcnfjpbaeaa", sum := "6faea89a86b0af1dc47917cd2af933b82981587d7f85c5746922a3fba7cfe67d", func := "turndown/turndownlaw08.RoomsTurns", spec := "roomsTurns", unfollowed := true, recurses := true, plainKeys := false, apart := false, narrowed := true }
def RoomsTurnsUptoSaid : Prop := roomsTurnsUptoRow.holds Try.pinned (OpenSpec.upto roomsTurnsSpec)

end Rows
end Go.Proofs.Ytpjobcnfjpbaeaa
