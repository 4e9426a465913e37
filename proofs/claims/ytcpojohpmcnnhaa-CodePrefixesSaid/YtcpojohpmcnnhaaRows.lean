/-
  No cell of these rows narrows 'for every input' (looked for: loops, veiled, ifaces, maps, wideKeys, modest, calm, conditions, laid).
  DERIVED. THE GIVEN ROWS OF THIS SEAT. 16 by the template 'for every input the law returns true; each argument reads behind the call as it read before'; 0 by the template 'total and deterministic' (their statements: YtcpojohpmcnnhaaTotals.lean).
  GIVEN WITH THE SEED: the statements are not yours to turn. If you find one false, say at which input.
  Laid BY PROGRAM, IN A SANDBOX (cutbox-rows.mjs): the forced cells as the released guide's own fill.sh prints them over the translation 2bb5947daca78c11… (all of the seat's roots in one cut). By AI agents, Wed Nov 11 2026. No macro, syntax, notation, axiom, sorry.
-/
import Derived.Test.YtcpojohpmcnnhaaChecked
import GoSem.Claim
import GoSem.ClaimJoined
import GoSem.ClaimMapViews
import Derived.JoinedTies
import Derived.KernelRfl
namespace Go.Proofs.Ytcpojohpmcnnhaa
/- THE CELL 'sum', in the pinned program and in every row, IS THE sha256 OF THE DUMP (.gsa) THAT YtcpojohpmcnnhaaProg.lean LOADS. Nothing in Lean hashes anything: it is a label: what it is worth is what the hold of that sum in a sandbox is worth. -/
noncomputable def Try.pinned : Pinned := { name := "ytcpojohpmcnnhaa", sum := "2bb5947daca78c116c41e41c30ced5fead14437d32ae6c491d2ae6486cf896ad", checked := Try.checked }
namespace Rows
def none {H : Type} : Left H := { results := [], args := [] }

/-- 'turndownlaw06.CodeBest': WHATEVER THE INPUT: true; the input reads as it did. -/
def codeBestSpec : ChangeSpec := { name := "codeBest", fn := fun _ => fun
  | [d1, d2] => { results := [.lit (.bool true)], args := [d1, d2] }
  | _ => none }
def codeBestRow : OpenClaim := { program := "ytcpojohpmcnnhaa", sum := "2bb5947daca78c116c41e41c30ced5fead14437d32ae6c491d2ae6486cf896ad", func := "turndown/turndownlaw06.CodeBest", spec := "codeBest", inPlace := ["internal/abi.NoEscape"], unfollowed := true, recurses := true, apart := false }
def CodeBestSaid : Prop := codeBestRow.holds Try.pinned (OpenSpec.ofChange codeBestSpec)

/-- ITS FALSE NEIGHBOUR: 'it returns false'. Refute it at one input. -/
def codeBestWrong : ChangeSpec := { name := "codeBest", fn := fun _ => fun
  | [d1, d2] => { results := [.lit (.bool false)], args := [d1, d2] }
  | _ => none }
def CodeBestWrongFalsely : Prop := codeBestRow.holds Try.pinned (OpenSpec.ofChange codeBestWrong)

/-- 'turndownlaw06.CodeWords': WHATEVER THE INPUT: true; the input reads as it did. -/
def codeWordsSpec : ChangeSpec := { name := "codeWords", fn := fun _ => fun
  | [d] => { results := [.lit (.bool true)], args := [d] }
  | _ => none }
def codeWordsRow : OpenClaim := { program := "ytcpojohpmcnnhaa", sum := "2bb5947daca78c116c41e41c30ced5fead14437d32ae6c491d2ae6486cf896ad", func := "turndown/turndownlaw06.CodeWords", spec := "codeWords", inPlace := ["internal/abi.NoEscape"], unfollowed := true, recurses := true, apart := false }
def CodeWordsSaid : Prop := codeWordsRow.holds Try.pinned (OpenSpec.ofChange codeWordsSpec)

/-- ITS FALSE NEIGHBOUR: 'it returns false'. Refute it at one input. -/
def codeWordsWrong : ChangeSpec := { name := "codeWords", fn := fun _ => fun
  | [d] => { results := [.lit (.bool false)], args := [d] }
  | _ => none }
def CodeWordsWrongFalsely : Prop := codeWordsRow.holds Try.pinned (OpenSpec.ofChange codeWordsWrong)

/-- 'turndownlaw06.CodeCards': WHATEVER THE INPUT: true; the input reads as it did. -/
def codeCardsSpec : ChangeSpec := { name := "codeCards", fn := fun _ => fun
  | [d1, d2] => { results := [.lit (.bool true)], args := [d1, d2] }
  | _ => none }
def codeCardsRow : OpenClaim := { program := "ytcpojohpmcnnhaa", sum := "2bb5947daca78c116c41e41c30ced5fead14437d32ae6c491d2ae6486cf896ad", func := "turndown/turndownlaw06.CodeCards", spec := "codeCards", inPlace := ["internal/abi.NoEscape"], unfollowed := true, recurses := true, apart := false }
def CodeCardsSaid : Prop := codeCardsRow.holds Try.pinned (OpenSpec.ofChange codeCardsSpec)

/-- ITS FALSE NEIGHBOUR: 'it returns false'. Refute it at one input. -/
def codeCardsWrong : ChangeSpec := { name := "codeCards", fn := fun _ => fun
  | [d1, d2] => { results := [.lit (.bool false)], args := [d1, d2] }
  | _ => none }
def CodeCardsWrongFalsely : Prop := codeCardsRow.holds Try.pinned (OpenSpec.ofChange codeCardsWrong)

/-- 'turndownlaw06.CodeReads': WHATEVER THE INPUT: true; the input reads as it did. -/
def codeReadsSpec : ChangeSpec := { name := "codeReads", fn := fun _ => fun
  | [d1, d2] => { results := [.lit (.bool true)], args := [d1, d2] }
  | _ => none }
def codeReadsRow : OpenClaim := { program := "ytcpojohpmcnnhaa", sum := "2bb5947daca78c116c41e41c30ced5fead14437d32ae6c491d2ae6486cf896ad", func := "turndown/turndownlaw06.CodeReads", spec := "codeReads", inPlace := ["internal/abi.NoEscape"], unfollowed := true, recurses := true, apart := false }
def CodeReadsSaid : Prop := codeReadsRow.holds Try.pinned (OpenSpec.ofChange codeReadsSpec)

/-- ITS FALSE NEIGHBOUR: 'it returns false'. Refute it at one input. -/
def codeReadsWrong : ChangeSpec := { name := "codeReads", fn := fun _ => fun
  | [d1, d2] => { results := [.lit (.bool false)], args := [d1, d2] }
  | _ => none }
def CodeReadsWrongFalsely : Prop := codeReadsRow.holds Try.pinned (OpenSpec.ofChange codeReadsWrong)

/-- 'turndownlaw06.CodeFree': WHATEVER THE INPUT: true; the input reads as it did. -/
def codeFreeSpec : ChangeSpec := { name := "codeFree", fn := fun _ => fun
  | [d1, d2] => { results := [.lit (.bool true)], args := [d1, d2] }
  | _ => none }
def codeFreeRow : OpenClaim := { program := "ytcpojohpmcnnhaa", sum := "2bb5947daca78c116c41e41c30ced5fead14437d32ae6c491d2ae6486cf896ad", func := "turndown/turndownlaw06.CodeFree", spec := "codeFree", inPlace := ["internal/abi.NoEscape"], unfollowed := true, recurses := true, apart := false }
def CodeFreeSaid : Prop := codeFreeRow.holds Try.pinned (OpenSpec.ofChange codeFreeSpec)

/-- ITS FALSE NEIGHBOUR: 'it returns false'. Refute it at one input. -/
def codeFreeWrong : ChangeSpec := { name := "codeFree", fn := fun _ => fun
  | [d1, d2] => { results := [.lit (.bool false)], args := [d1, d2] }
  | _ => none }
def CodeFreeWrongFalsely : Prop := codeFreeRow.holds Try.pinned (OpenSpec.ofChange codeFreeWrong)

/-- 'turndownlaw06.CodeFull': WHATEVER THE INPUT: true; the input reads as it did. -/
def codeFullSpec : ChangeSpec := { name := "codeFull", fn := fun _ => fun
  | [d1, d2, d3] => { results := [.lit (.bool true)], args := [d1, d2, d3] }
  | _ => none }
def codeFullRow : OpenClaim := { program := "ytcpojohpmcnnhaa", sum := "2bb5947daca78c116c41e41c30ced5fead14437d32ae6c491d2ae6486cf896ad", func := "turndown/turndownlaw06.CodeFull", spec := "codeFull", inPlace := ["internal/abi.NoEscape"], unfollowed := true, recurses := true, apart := false }
def CodeFullSaid : Prop := codeFullRow.holds Try.pinned (OpenSpec.ofChange codeFullSpec)

/-- ITS FALSE NEIGHBOUR: 'it returns false'. Refute it at one input. -/
def codeFullWrong : ChangeSpec := { name := "codeFull", fn := fun _ => fun
  | [d1, d2, d3] => { results := [.lit (.bool false)], args := [d1, d2, d3] }
  | _ => none }
def CodeFullWrongFalsely : Prop := codeFullRow.holds Try.pinned (OpenSpec.ofChange codeFullWrong)

/-- 'turndownlaw06.CodeLimits': WHATEVER THE INPUT: true; the input reads as it did. -/
def codeLimitsSpec : ChangeSpec := { name := "codeLimits", fn := fun _ => fun
  | [d1, d2] => { results := [.lit (.bool true)], args := [d1, d2] }
  | _ => none }
def codeLimitsRow : OpenClaim := { program := "ytcpojohpmcnnhaa", sum := "2bb5947daca78c116c41e41c30ced5fead14437d32ae6c491d2ae6486cf896ad", func := "turndown/turndownlaw06.CodeLimits", spec := "codeLimits", inPlace := ["internal/abi.NoEscape"], unfollowed := true, recurses := true, apart := false }
def CodeLimitsSaid : Prop := codeLimitsRow.holds Try.pinned (OpenSpec.ofChange codeLimitsSpec)

/-- ITS FALSE NEIGHBOUR: 'it returns false'. Refute it at one input. -/
def codeLimitsWrong : ChangeSpec := { name := "codeLimits", fn := fun _ => fun
  | [d1, d2] => { results := [.lit (.bool false)], args := [d1, d2] }
  | _ => none }
def CodeLimitsWrongFalsely : Prop := codeLimitsRow.holds Try.pinned (OpenSpec.ofChange codeLimitsWrong)

/-- 'turndownlaw06.CodeMerges': WHATEVER THE INPUT: true; the input reads as it did. -/
def codeMergesSpec : ChangeSpec := { name := "codeMerges", fn := fun _ => fun
  | [d] => { results := [.lit (.bool true)], args := [d] }
  | _ => none }
def codeMergesRow : OpenClaim := { program := "ytcpojohpmcnnhaa", sum := "2bb5947daca78c116c41e41c30ced5fead14437d32ae6c491d2ae6486cf896ad", func := "turndown/turndownlaw06.CodeMerges", spec := "codeMerges", inPlace := ["internal/abi.NoEscape"], unfollowed := true, recurses := true, apart := false }
def CodeMergesSaid : Prop := codeMergesRow.holds Try.pinned (OpenSpec.ofChange codeMergesSpec)

/-- ITS FALSE NEIGHBOUR: 'it returns false'. Refute it at one input. -/
def codeMergesWrong : ChangeSpec := { name := "codeMerges", fn := fun _ => fun
  | [d] => { results := [.lit (.bool false)], args := [d] }
  | _ => none }
def CodeMergesWrongFalsely : Prop := codeMergesRow.holds Try.pinned (OpenSpec.ofChange codeMergesWrong)

/-- 'turndownlaw06.CodeLinear': WHATEVER THE INPUT: true; the input reads as it did. -/
def codeLinearSpec : ChangeSpec := { name := "codeLinear", fn := fun _ => fun
  | [d1, d2, d3] => { results := [.lit (.bool true)], args := [d1, d2, d3] }
  | _ => none }
def codeLinearRow : OpenClaim := { program := "ytcpojohpmcnnhaa", sum := "2bb5947daca78c116c41e41c30ced5fead14437d32ae6c491d2ae6486cf896ad", func := "turndown/turndownlaw06.CodeLinear", spec := "codeLinear", inPlace := ["internal/abi.NoEscape"], unfollowed := true, recurses := true, apart := false }
def CodeLinearSaid : Prop := codeLinearRow.holds Try.pinned (OpenSpec.ofChange codeLinearSpec)

/-- ITS FALSE NEIGHBOUR: 'it returns false'. Refute it at one input. -/
def codeLinearWrong : ChangeSpec := { name := "codeLinear", fn := fun _ => fun
  | [d1, d2, d3] => { results := [.lit (.bool false)], args := [d1, d2, d3] }
  | _ => none }
def CodeLinearWrongFalsely : Prop := codeLinearRow.holds Try.pinned (OpenSpec.ofChange codeLinearWrong)

/-- 'turndownlaw06.CodeMends': WHATEVER THE INPUT: true; the input reads as it did. -/
def codeMendsSpec : ChangeSpec := { name := "codeMends", fn := fun _ => fun
  | [d1, d2, d3] => { results := [.lit (.bool true)], args := [d1, d2, d3] }
  | _ => none }
def codeMendsRow : OpenClaim := { program := "ytcpojohpmcnnhaa", sum := "2bb5947daca78c116c41e41c30ced5fead14437d32ae6c491d2ae6486cf896ad", func := "turndown/turndownlaw06.CodeMends", spec := "codeMends", inPlace := ["internal/abi.NoEscape"], unfollowed := true, recurses := true, apart := false }
def CodeMendsSaid : Prop := codeMendsRow.holds Try.pinned (OpenSpec.ofChange codeMendsSpec)

/-- ITS FALSE NEIGHBOUR: 'it returns false'. Refute it at one input. -/
def codeMendsWrong : ChangeSpec := { name := "codeMends", fn := fun _ => fun
  | [d1, d2, d3] => { results := [.lit (.bool false)], args := [d1, d2, d3] }
  | _ => none }
def CodeMendsWrongFalsely : Prop := codeMendsRow.holds Try.pinned (OpenSpec.ofChange codeMendsWrong)

/-- 'turndownlaw06.CodeNearest': WHATEVER THE INPUT: true; the input reads as it did. -/
def codeNearestSpec : ChangeSpec := { name := "codeNearest", fn := fun _ => fun
  | [d1, d2] => { results := [.lit (.bool true)], args := [d1, d2] }
  | _ => none }
def codeNearestRow : OpenClaim := { program := "ytcpojohpmcnnhaa", sum := "2bb5947daca78c116c41e41c30ced5fead14437d32ae6c491d2ae6486cf896ad", func := "turndown/turndownlaw06.CodeNearest", spec := "codeNearest", inPlace := ["internal/abi.NoEscape"], unfollowed := true, recurses := true, apart := false }
def CodeNearestSaid : Prop := codeNearestRow.holds Try.pinned (OpenSpec.ofChange codeNearestSpec)

/-- ITS FALSE NEIGHBOUR: 'it returns false'. Refute it at one input. -/
def codeNearestWrong : ChangeSpec := { name := "codeNearest", fn := fun _ => fun
  | [d1, d2] => { results := [.lit (.bool false)], args := [d1, d2] }
  | _ => none }
def CodeNearestWrongFalsely : Prop := codeNearestRow.holds Try.pinned (OpenSpec.ofChange codeNearestWrong)

/-- 'turndownlaw06.CodeCosts': WHATEVER THE INPUT: true; the input reads as it did. -/
def codeCostsSpec : ChangeSpec := { name := "codeCosts", fn := fun _ => fun
  | [d1, d2] => { results := [.lit (.bool true)], args := [d1, d2] }
  | _ => none }
def codeCostsRow : OpenClaim := { program := "ytcpojohpmcnnhaa", sum := "2bb5947daca78c116c41e41c30ced5fead14437d32ae6c491d2ae6486cf896ad", func := "turndown/turndownlaw06.CodeCosts", spec := "codeCosts", inPlace := ["internal/abi.NoEscape"], unfollowed := true, recurses := true, apart := false }
def CodeCostsSaid : Prop := codeCostsRow.holds Try.pinned (OpenSpec.ofChange codeCostsSpec)

/-- ITS FALSE NEIGHBOUR: 'it returns false'. Refute it at one input. -/
def codeCostsWrong : ChangeSpec := { name := "codeCosts", fn := fun _ => fun
  | [d1, d2] => { results := [.lit (.bool false)], args := [d1, d2] }
  | _ => none }
def CodeCostsWrongFalsely : Prop := codeCostsRow.holds Try.pinned (OpenSpec.ofChange codeCostsWrong)

/-- 'turndownlaw06.CodeEncodes': WHATEVER THE INPUT: true; the input reads as it did. -/
def codeEncodesSpec : ChangeSpec := { name := "codeEncodes", fn := fun _ => fun
  | [d1, d2] => { results := [.lit (.bool true)], args := [d1, d2] }
  | _ => none }
def codeEncodesRow : OpenClaim := { program := "ytcpojohpmcnnhaa", sum := "2bb5947daca78c116c41e41c30ced5fead14437d32ae6c491d2ae6486cf896ad", func := "turndown/turndownlaw06.CodeEncodes", spec := "codeEncodes", inPlace := ["internal/abi.NoEscape"], unfollowed := true, recurses := true, apart := false }
def CodeEncodesSaid : Prop := codeEncodesRow.holds Try.pinned (OpenSpec.ofChange codeEncodesSpec)

/-- ITS FALSE NEIGHBOUR: 'it returns false'. Refute it at one input. -/
def codeEncodesWrong : ChangeSpec := { name := "codeEncodes", fn := fun _ => fun
  | [d1, d2] => { results := [.lit (.bool false)], args := [d1, d2] }
  | _ => none }
def CodeEncodesWrongFalsely : Prop := codeEncodesRow.holds Try.pinned (OpenSpec.ofChange codeEncodesWrong)

/-- 'turndownlaw06.CodeOwn': WHATEVER THE INPUT: true; the input reads as it did. -/
def codeOwnSpec : ChangeSpec := { name := "codeOwn", fn := fun _ => fun
  | [d1, d2] => { results := [.lit (.bool true)], args := [d1, d2] }
  | _ => none }
def codeOwnRow : OpenClaim := { program := "ytcpojohpmcnnhaa", sum := "2bb5947daca78c116c41e41c30ced5fead14437d32ae6c491d2ae6486cf896ad", func := "turndown/turndownlaw06.CodeOwn", spec := "codeOwn", inPlace := ["internal/abi.NoEscape"], unfollowed := true, recurses := true, apart := false }
def CodeOwnSaid : Prop := codeOwnRow.holds Try.pinned (OpenSpec.ofChange codeOwnSpec)

/-- ITS FALSE NEIGHBOUR: 'it returns false'. Refute it at one input. -/
def codeOwnWrong : ChangeSpec := { name := "codeOwn", fn := fun _ => fun
  | [d1, d2] => { results := [.lit (.bool false)], args := [d1, d2] }
  | _ => none }
def CodeOwnWrongFalsely : Prop := codeOwnRow.holds Try.pinned (OpenSpec.ofChange codeOwnWrong)

/-- 'turndownlaw06.CodeDecodes': WHATEVER THE INPUT: true; the input reads as it did. -/
def codeDecodesSpec : ChangeSpec := { name := "codeDecodes", fn := fun _ => fun
  | [d1, d2] => { results := [.lit (.bool true)], args := [d1, d2] }
  | _ => none }
def codeDecodesRow : OpenClaim := { program := "ytcpojohpmcnnhaa", sum := "2bb5947daca78c116c41e41c30ced5fead14437d32ae6c491d2ae6486cf896ad", func := "turndown/turndownlaw06.CodeDecodes", spec := "codeDecodes", inPlace := ["internal/abi.NoEscape"], unfollowed := true, recurses := true, apart := false }
def CodeDecodesSaid : Prop := codeDecodesRow.holds Try.pinned (OpenSpec.ofChange codeDecodesSpec)

/-- ITS FALSE NEIGHBOUR: 'it returns false'. Refute it at one input. -/
def codeDecodesWrong : ChangeSpec := { name := "codeDecodes", fn := fun _ => fun
  | [d1, d2] => { results := [.lit (.bool false)], args := [d1, d2] }
  | _ => none }
def CodeDecodesWrongFalsely : Prop := codeDecodesRow.holds Try.pinned (OpenSpec.ofChange codeDecodesWrong)

/-- 'turndownlaw06.CodePrefixes': WHATEVER THE INPUT: true; the input reads as it did. -/
def codePrefixesSpec : ChangeSpec := { name := "codePrefixes", fn := fun _ => fun
  | [d1, d2, d3] => { results := [.lit (.bool true)], args := [d1, d2, d3] }
  | _ => none }
def codePrefixesRow : OpenClaim := { program := "ytcpojohpmcnnhaa", sum := "2bb5947daca78c116c41e41c30ced5fead14437d32ae6c491d2ae6486cf896ad", func := "turndown/turndownlaw06.CodePrefixes", spec := "codePrefixes", inPlace := ["internal/abi.NoEscape"], unfollowed := true, recurses := true, apart := false }
def CodePrefixesSaid : Prop := codePrefixesRow.holds Try.pinned (OpenSpec.ofChange codePrefixesSpec)

/-- ITS FALSE NEIGHBOUR: 'it returns false'. Refute it at one input. -/
def codePrefixesWrong : ChangeSpec := { name := "codePrefixes", fn := fun _ => fun
  | [d1, d2, d3] => { results := [.lit (.bool false)], args := [d1, d2, d3] }
  | _ => none }
def CodePrefixesWrongFalsely : Prop := codePrefixesRow.holds Try.pinned (OpenSpec.ofChange codePrefixesWrong)

/- THE SECOND FORM. 'bulk': how many values and letters a reading holds, each counted each time it is reached (what is shared counts as often as it is met; a slice's spare places count too). A statement '..UptoSaid' is the law's where the arguments, and the package variables that the reading takes, are together of bulk at most 1048576: NARROWER than '..Said'. Prove '..Said' where nothing that the law and all that it calls make is longer than what came in: it says more and counts as full. Else prove '..UptoSaid'. A law counts once. -/
mutual
def uptoBulk {H : Type} : DataW H → Nat
  | .lit (.string bytes) => bytes.length + 1
  | .lit _ => 1
  | .nil => 1
  | .ptr d => uptoBulk d + 1
  | .slice elems spare => uptoBulkAll elems + uptoBulkAll spare + 1
  | .agg parts => uptoBulkAll parts + 1
  | .iface _ d => uptoBulk d + 1
  | .map entries => uptoBulkEntries entries + 1
  | .held _ => 1
def uptoBulkAll {H : Type} : List (DataW H) → Nat
  | [] => 0
  | d :: r => uptoBulk d + uptoBulkAll r
def uptoBulkEntries {H : Type} : List (Lit × DataW H) → Nat
  | [] => 0
  | x :: r => uptoBulkEntry x + uptoBulkEntries r
def uptoBulkEntry {H : Type} : Lit × DataW H → Nat
  | (.string bytes, d) => bytes.length + uptoBulk d + 1
  | (_, d) => uptoBulk d + 1
 end
def uptoSmall : (H : Type) → List (DataW H) → Bool := fun _ ds => decide (uptoBulkAll ds ≤ 1048576)
def OpenSpec.upto (s : _root_.Go.ChangeSpec) : _root_.Go.OpenSpec := { _root_.Go.OpenSpec.ofChange s with cond := some uptoSmall }

/-- 'turndownlaw06.CodeBest', WHERE WHAT IT READS IS OF BULK AT MOST 1048576: true; the input reads as it did. -/
def codeBestUptoRow : OpenClaim := { program := "ytcpojohpmcnnhaa", sum := "2bb5947daca78c116c41e41c30ced5fead14437d32ae6c491d2ae6486cf896ad", func := "turndown/turndownlaw06.CodeBest", spec := "codeBest", inPlace := ["internal/abi.NoEscape"], unfollowed := true, recurses := true, apart := false, narrowed := true }
def CodeBestUptoSaid : Prop := codeBestUptoRow.holds Try.pinned (OpenSpec.upto codeBestSpec)

/-- 'turndownlaw06.CodeWords', WHERE WHAT IT READS IS OF BULK AT MOST 1048576: true; the input reads as it did. -/
def codeWordsUptoRow : OpenClaim := { program := "ytcpojohpmcnnhaa", sum := "2bb5947daca78c116c41e41c30ced5fead14437d32ae6c491d2ae6486cf896ad", func := "turndown/turndownlaw06.CodeWords", spec := "codeWords", inPlace := ["internal/abi.NoEscape"], unfollowed := true, recurses := true, apart := false, narrowed := true }
def CodeWordsUptoSaid : Prop := codeWordsUptoRow.holds Try.pinned (OpenSpec.upto codeWordsSpec)

/-- 'turndownlaw06.CodeCards', WHERE WHAT IT READS IS OF BULK AT MOST 1048576: true; the input reads as it did. -/
def codeCardsUptoRow : OpenClaim := { program := "ytcpojohpmcnnhaa", sum := "2bb5947daca78c116c41e41c30ced5fead14437d32ae6c491d2ae6486cf896ad", func := "turndown/turndownlaw06.CodeCards", spec := "codeCards", inPlace := ["internal/abi.NoEscape"], unfollowed := true, recurses := true, apart := false, narrowed := true }
def CodeCardsUptoSaid : Prop := codeCardsUptoRow.holds Try.pinned (OpenSpec.upto codeCardsSpec)

/-- 'turndownlaw06.CodeReads', WHERE WHAT IT READS IS OF BULK AT MOST 1048576: true; the input reads as it did. -/
def codeReadsUptoRow : OpenClaim := { program := "ytcpojohpmcnnhaa", sum := "2bb5947daca78c116c41e41c30ced5fead14437d32ae6c491d2ae6486cf896ad", func := "turndown/turndownlaw06.CodeReads", spec := "codeReads", inPlace := ["internal/abi.NoEscape"], unfollowed := true, recurses := true, apart := false, narrowed := true }
def CodeReadsUptoSaid : Prop := codeReadsUptoRow.holds Try.pinned (OpenSpec.upto codeReadsSpec)

/-- 'turndownlaw06.CodeFree', WHERE WHAT IT READS IS OF BULK AT MOST 1048576: true; the input reads as it did. -/
def codeFreeUptoRow : OpenClaim := { program := "ytcpojohpmcnnhaa", sum := "2bb5947daca78c116c41e41c30ced5fead14437d32ae6c491d2ae6486cf896ad", func := "turndown/turndownlaw06.CodeFree", spec := "codeFree", inPlace := ["internal/abi.NoEscape"], unfollowed := true, recurses := true, apart := false, narrowed := true }
def CodeFreeUptoSaid : Prop := codeFreeUptoRow.holds Try.pinned (OpenSpec.upto codeFreeSpec)

/-- 'turndownlaw06.CodeFull', WHERE WHAT IT READS IS OF BULK AT MOST 1048576: true; the input reads as it did. -/
def codeFullUptoRow : OpenClaim := { program := "ytcpojohpmcnnhaa", sum := "2bb5947daca78c116c41e41c30ced5fead14437d32ae6c491d2ae6486cf896ad", func := "turndown/turndownlaw06.CodeFull", spec := "codeFull", inPlace := ["internal/abi.NoEscape"], unfollowed := true, recurses := true, apart := false, narrowed := true }
def CodeFullUptoSaid : Prop := codeFullUptoRow.holds Try.pinned (OpenSpec.upto codeFullSpec)

/-- 'turndownlaw06.CodeLimits', WHERE WHAT IT READS IS OF BULK AT MOST 1048576: true; the input reads as it did. -/
def codeLimitsUptoRow : OpenClaim := { program := "ytcpojohpmcnnhaa", sum := "2bb5947daca78c116c41e41c30ced5fead14437d32ae6c491d2ae6486cf896ad", func := "turndown/turndownlaw06.CodeLimits", spec := "codeLimits", inPlace := ["internal/abi.NoEscape"], unfollowed := true, recurses := true, apart := false, narrowed := true }
def CodeLimitsUptoSaid : Prop := codeLimitsUptoRow.holds Try.pinned (OpenSpec.upto codeLimitsSpec)

/-- 'turndownlaw06.CodeMerges', WHERE WHAT IT READS IS OF BULK AT MOST 1048576: true; the input reads as it did. -/
def codeMergesUptoRow : OpenClaim := { program := "ytcpojohpmcnnhaa", sum := "2bb5947daca78c116c41e41c30ced5fead14437d32ae6c491d2ae6486cf896ad", func := "turndown/turndownlaw06.CodeMerges", spec := "codeMerges", inPlace := ["internal/abi.NoEscape"], unfollowed := true, recurses := true, apart := false, narrowed := true }
def CodeMergesUptoSaid : Prop := codeMergesUptoRow.holds Try.pinned (OpenSpec.upto codeMergesSpec)

/-- 'turndownlaw06.CodeLinear', WHERE WHAT IT READS IS OF BULK AT MOST 1048576: true; the input reads as it did. -/
def codeLinearUptoRow : OpenClaim := { program := "ytcpojohpmcnnhaa", sum := "2bb5947daca78c116c41e41c30ced5fead14437d32ae6c491d2ae6486cf896ad", func := "turndown/turndownlaw06.CodeLinear", spec := "codeLinear", inPlace := ["internal/abi.NoEscape"], unfollowed := true, recurses := true, apart := false, narrowed := true }
def CodeLinearUptoSaid : Prop := codeLinearUptoRow.holds Try.pinned (OpenSpec.upto codeLinearSpec)

/-- 'turndownlaw06.CodeMends', WHERE WHAT IT READS IS OF BULK AT MOST 1048576: true; the input reads as it did. -/
def codeMendsUptoRow : OpenClaim := { program := "ytcpojohpmcnnhaa", sum := "2bb5947daca78c116c41e41c30ced5fead14437d32ae6c491d2ae6486cf896ad", func := "turndown/turndownlaw06.CodeMends", spec := "codeMends", inPlace := ["internal/abi.NoEscape"], unfollowed := true, recurses := true, apart := false, narrowed := true }
def CodeMendsUptoSaid : Prop := codeMendsUptoRow.holds Try.pinned (OpenSpec.upto codeMendsSpec)

/-- 'turndownlaw06.CodeNearest', WHERE WHAT IT READS IS OF BULK AT MOST 1048576: true; the input reads as it did. -/
def codeNearestUptoRow : OpenClaim := { program := "ytcpojohpmcnnhaa", sum := "2bb5947daca78c116c41e41c30ced5fead14437d32ae6c491d2ae6486cf896ad", func := "turndown/turndownlaw06.CodeNearest", spec := "codeNearest", inPlace := ["internal/abi.NoEscape"], unfollowed := true, recurses := true, apart := false, narrowed := true }
def CodeNearestUptoSaid : Prop := codeNearestUptoRow.holds Try.pinned (OpenSpec.upto codeNearestSpec)

/-- 'turndownlaw06.CodeCosts', WHERE WHAT IT READS IS OF BULK AT MOST 1048576: true; the input reads as it did. -/
def codeCostsUptoRow : OpenClaim := { program := "ytcpojohpmcnnhaa", sum := "2bb5947daca78c116c41e41c30ced5fead14437d32ae6c491d2ae6486cf896ad", func := "turndown/turndownlaw06.CodeCosts", spec := "codeCosts", inPlace := ["internal/abi.NoEscape"], unfollowed := true, recurses := true, apart := false, narrowed := true }
def CodeCostsUptoSaid : Prop := codeCostsUptoRow.holds Try.pinned (OpenSpec.upto codeCostsSpec)

/-- 'turndownlaw06.CodeEncodes', WHERE WHAT IT READS IS OF BULK AT MOST 1048576: true; the input reads as it did. -/
def codeEncodesUptoRow : OpenClaim := { program := "ytcpojohpmcnnhaa", sum := "2bb5947daca78c116c41e41c30ced5fead14437d32ae6c491d2ae6486cf896ad", func := "turndown/turndownlaw06.CodeEncodes", spec := "codeEncodes", inPlace := ["internal/abi.NoEscape"], unfollowed := true, recurses := true, apart := false, narrowed := true }
def CodeEncodesUptoSaid : Prop := codeEncodesUptoRow.holds Try.pinned (OpenSpec.upto codeEncodesSpec)

/-- 'turndownlaw06.CodeOwn', WHERE WHAT IT READS IS OF BULK AT MOST 1048576: true; the input reads as it did. -/
def codeOwnUptoRow : OpenClaim := { program := "ytcpojohpmcnnhaa", sum := "2bb5947daca78c116c41e41c30ced5fead14437d32ae6c491d2ae6486cf896ad", func := "turndown/turndownlaw06.CodeOwn", spec := "codeOwn", inPlace := ["internal/abi.NoEscape"], unfollowed := true, recurses := true, apart := false, narrowed := true }
def CodeOwnUptoSaid : Prop := codeOwnUptoRow.holds Try.pinned (OpenSpec.upto codeOwnSpec)

/-- 'turndownlaw06.CodeDecodes', WHERE WHAT IT READS IS OF BULK AT MOST 1048576: true; the input reads as it did. -/
def codeDecodesUptoRow : OpenClaim := { program := "ytcpojohpmcnnhaa", sum := "2bb5947daca78c116c41e41c30ced5fead14437d32ae6c491d2ae6486cf896ad", func := "turndown/turndownlaw06.CodeDecodes", spec := "codeDecodes", inPlace := ["internal/abi.NoEscape"], unfollowed := true, recurses := true, apart := false, narrowed := true }
def CodeDecodesUptoSaid : Prop := codeDecodesUptoRow.holds Try.pinned (OpenSpec.upto codeDecodesSpec)

/-- 'turndownlaw06.CodePrefixes', WHERE WHAT IT READS IS OF BULK AT MOST 1048576: true; the input reads as it did. -/
def codePrefixesUptoRow : OpenClaim := { program := "ytcpojohpmcnnhaa", sum := "2bb5947daca78c116c41e41c30ced5fead14437d32ae6c491d2ae6486cf896ad", func := "turndown/turndownlaw06.CodePrefixes", spec := "codePrefixes", inPlace := ["internal/abi.NoEscape"], unfollowed := true, recurses := true, apart := false, narrowed := true }
def CodePrefixesUptoSaid : Prop := codePrefixesUptoRow.holds Try.pinned (OpenSpec.upto codePrefixesSpec)

end Rows
end Go.Proofs.Ytcpojohpmcnnhaa
