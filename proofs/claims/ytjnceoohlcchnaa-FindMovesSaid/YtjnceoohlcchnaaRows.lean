/-
  No cell of these rows narrows 'for every input' (looked for: loops, veiled, ifaces, maps, wideKeys, modest, calm, conditions, laid).
  DERIVED. THE GIVEN ROWS OF THIS SEAT. 9 by the template 'for every input the law returns true; each argument reads behind the call as it read before'; 0 by the template 'total and deterministic' (their statements: YtjnceoohlcchnaaTotals.lean).
  GIVEN WITH THE SEED: the statements are not yours to turn. If you find one false, say at which input.
  Laid BY PROGRAM, IN A SANDBOX (cutbox-rows.mjs): the forced cells as the released guide's own fill.sh prints them over the translation 783f3a7adf82ca3a… (all of the seat's roots in one cut). By AI agents, Wed Nov 11 2026. No macro, syntax, notation, axiom, sorry.
-/
import Derived.Test.YtjnceoohlcchnaaChecked
import GoSem.Claim
import GoSem.ClaimJoined
import GoSem.ClaimMapViews
import Derived.JoinedTies
import Derived.KernelRfl
namespace Go.Proofs.Ytjnceoohlcchnaa
/- THE CELL 'sum', in the pinned program and in every row, IS THE sha256 OF THE DUMP (.gsa) THAT YtjnceoohlcchnaaProg.lean LOADS. Nothing in Lean hashes anything: it is a label: what it is worth is what the hold of that sum in a sandbox is worth. -/
noncomputable def Try.pinned : Pinned := { name := "ytjnceoohlcchnaa", sum := "783f3a7adf82ca3ad0974e2f65f9ade052dc48e006459fbbd6eccd3bb745ca04", checked := Try.checked }
namespace Rows
def none {H : Type} : Left H := { results := [], args := [] }

/-- 'beryllaw17.FindFound': WHATEVER THE INPUT: true; the input reads as it did. -/
def findFoundSpec : ChangeSpec := { name := "findFound", fn := fun _ => fun
  | [d1, d2, d3, d4] => { results := [.lit (.bool true)], args := [d1, d2, d3, d4] }
  | _ => none }
def findFoundRow : OpenClaim := { program := "ytjnceoohlcchnaa", sum := "783f3a7adf82ca3ad0974e2f65f9ade052dc48e006459fbbd6eccd3bb745ca04", func := "beryl/beryllaw17.FindFound", spec := "findFound", inPlace := ["slices.overlaps[beryl/api.Hint]"], unfollowed := true, recurses := true, plainKeys := false, apart := false }
def FindFoundSaid : Prop := findFoundRow.holds Try.pinned (OpenSpec.ofChange findFoundSpec)

/-- ITS FALSE NEIGHBOUR: 'it returns false'. Refute it at one input. -/
def findFoundWrong : ChangeSpec := { name := "findFound", fn := fun _ => fun
  | [d1, d2, d3, d4] => { results := [.lit (.bool false)], args := [d1, d2, d3, d4] }
  | _ => none }
def FindFoundWrongFalsely : Prop := findFoundRow.holds Try.pinned (OpenSpec.ofChange findFoundWrong)

/-- 'beryllaw17.FindMoved': WHATEVER THE INPUT: true; the input reads as it did. -/
def findMovedSpec : ChangeSpec := { name := "findMoved", fn := fun _ => fun
  | [d1, d2, d3, d4, d5] => { results := [.lit (.bool true)], args := [d1, d2, d3, d4, d5] }
  | _ => none }
def findMovedRow : OpenClaim := { program := "ytjnceoohlcchnaa", sum := "783f3a7adf82ca3ad0974e2f65f9ade052dc48e006459fbbd6eccd3bb745ca04", func := "beryl/beryllaw17.FindMoved", spec := "findMoved", inPlace := ["slices.overlaps[beryl/api.Hint]"], unfollowed := true, recurses := true, plainKeys := false, apart := false }
def FindMovedSaid : Prop := findMovedRow.holds Try.pinned (OpenSpec.ofChange findMovedSpec)

/-- ITS FALSE NEIGHBOUR: 'it returns false'. Refute it at one input. -/
def findMovedWrong : ChangeSpec := { name := "findMoved", fn := fun _ => fun
  | [d1, d2, d3, d4, d5] => { results := [.lit (.bool false)], args := [d1, d2, d3, d4, d5] }
  | _ => none }
def FindMovedWrongFalsely : Prop := findMovedRow.holds Try.pinned (OpenSpec.ofChange findMovedWrong)

/-- 'beryllaw17.FindMoves': WHATEVER THE INPUT: true; the input reads as it did. -/
def findMovesSpec : ChangeSpec := { name := "findMoves", fn := fun _ => fun
  | [d1, d2, d3, d4] => { results := [.lit (.bool true)], args := [d1, d2, d3, d4] }
  | _ => none }
def findMovesRow : OpenClaim := { program := "ytjnceoohlcchnaa", sum := "783f3a7adf82ca3ad0974e2f65f9ade052dc48e006459fbbd6eccd3bb745ca04", func := "beryl/beryllaw17.FindMoves", spec := "findMoves", inPlace := ["slices.overlaps[beryl/api.Hint]"], unfollowed := true, recurses := true, plainKeys := false, apart := false }
def FindMovesSaid : Prop := findMovesRow.holds Try.pinned (OpenSpec.ofChange findMovesSpec)

/-- ITS FALSE NEIGHBOUR: 'it returns false'. Refute it at one input. -/
def findMovesWrong : ChangeSpec := { name := "findMoves", fn := fun _ => fun
  | [d1, d2, d3, d4] => { results := [.lit (.bool false)], args := [d1, d2, d3, d4] }
  | _ => none }
def FindMovesWrongFalsely : Prop := findMovesRow.holds Try.pinned (OpenSpec.ofChange findMovesWrong)

/-- 'beryllaw17.FindAgain': WHATEVER THE INPUT: true; the input reads as it did. -/
def findAgainSpec : ChangeSpec := { name := "findAgain", fn := fun _ => fun
  | [d1, d2, d3, d4] => { results := [.lit (.bool true)], args := [d1, d2, d3, d4] }
  | _ => none }
def findAgainRow : OpenClaim := { program := "ytjnceoohlcchnaa", sum := "783f3a7adf82ca3ad0974e2f65f9ade052dc48e006459fbbd6eccd3bb745ca04", func := "beryl/beryllaw17.FindAgain", spec := "findAgain", inPlace := ["slices.overlaps[beryl/api.Hint]"], unfollowed := true, recurses := true, plainKeys := false, apart := false }
def FindAgainSaid : Prop := findAgainRow.holds Try.pinned (OpenSpec.ofChange findAgainSpec)

/-- ITS FALSE NEIGHBOUR: 'it returns false'. Refute it at one input. -/
def findAgainWrong : ChangeSpec := { name := "findAgain", fn := fun _ => fun
  | [d1, d2, d3, d4] => { results := [.lit (.bool false)], args := [d1, d2, d3, d4] }
  | _ => none }
def FindAgainWrongFalsely : Prop := findAgainRow.holds Try.pinned (OpenSpec.ofChange findAgainWrong)

/-- 'beryllaw17.FindChecks': WHATEVER THE INPUT: true; the input reads as it did. -/
def findChecksSpec : ChangeSpec := { name := "findChecks", fn := fun _ => fun
  | [d1, d2, d3] => { results := [.lit (.bool true)], args := [d1, d2, d3] }
  | _ => none }
def findChecksRow : OpenClaim := { program := "ytjnceoohlcchnaa", sum := "783f3a7adf82ca3ad0974e2f65f9ade052dc48e006459fbbd6eccd3bb745ca04", func := "beryl/beryllaw17.FindChecks", spec := "findChecks", inPlace := ["slices.overlaps[beryl/api.Hint]"], unfollowed := true, recurses := true, plainKeys := false, apart := false }
def FindChecksSaid : Prop := findChecksRow.holds Try.pinned (OpenSpec.ofChange findChecksSpec)

/-- ITS FALSE NEIGHBOUR: 'it returns false'. Refute it at one input. -/
def findChecksWrong : ChangeSpec := { name := "findChecks", fn := fun _ => fun
  | [d1, d2, d3] => { results := [.lit (.bool false)], args := [d1, d2, d3] }
  | _ => none }
def FindChecksWrongFalsely : Prop := findChecksRow.holds Try.pinned (OpenSpec.ofChange findChecksWrong)

/-- 'beryllaw17.FindValid': WHATEVER THE INPUT: true; the input reads as it did. -/
def findValidSpec : ChangeSpec := { name := "findValid", fn := fun _ => fun
  | [d1, d2, d3, d4] => { results := [.lit (.bool true)], args := [d1, d2, d3, d4] }
  | _ => none }
def findValidRow : OpenClaim := { program := "ytjnceoohlcchnaa", sum := "783f3a7adf82ca3ad0974e2f65f9ade052dc48e006459fbbd6eccd3bb745ca04", func := "beryl/beryllaw17.FindValid", spec := "findValid", inPlace := ["slices.overlaps[beryl/api.Hint]"], unfollowed := true, recurses := true, plainKeys := false, apart := false }
def FindValidSaid : Prop := findValidRow.holds Try.pinned (OpenSpec.ofChange findValidSpec)

/-- ITS FALSE NEIGHBOUR: 'it returns false'. Refute it at one input. -/
def findValidWrong : ChangeSpec := { name := "findValid", fn := fun _ => fun
  | [d1, d2, d3, d4] => { results := [.lit (.bool false)], args := [d1, d2, d3, d4] }
  | _ => none }
def FindValidWrongFalsely : Prop := findValidRow.holds Try.pinned (OpenSpec.ofChange findValidWrong)

/-- 'beryllaw17.FindWays': WHATEVER THE INPUT: true; the input reads as it did. -/
def findWaysSpec : ChangeSpec := { name := "findWays", fn := fun _ => fun
  | [d1, d2, d3, d4, d5, d6] => { results := [.lit (.bool true)], args := [d1, d2, d3, d4, d5, d6] }
  | _ => none }
def findWaysRow : OpenClaim := { program := "ytjnceoohlcchnaa", sum := "783f3a7adf82ca3ad0974e2f65f9ade052dc48e006459fbbd6eccd3bb745ca04", func := "beryl/beryllaw17.FindWays", spec := "findWays", inPlace := ["slices.overlaps[beryl/api.Hint]"], unfollowed := true, recurses := true, plainKeys := false, apart := false }
def FindWaysSaid : Prop := findWaysRow.holds Try.pinned (OpenSpec.ofChange findWaysSpec)

/-- ITS FALSE NEIGHBOUR: 'it returns false'. Refute it at one input. -/
def findWaysWrong : ChangeSpec := { name := "findWays", fn := fun _ => fun
  | [d1, d2, d3, d4, d5, d6] => { results := [.lit (.bool false)], args := [d1, d2, d3, d4, d5, d6] }
  | _ => none }
def FindWaysWrongFalsely : Prop := findWaysRow.holds Try.pinned (OpenSpec.ofChange findWaysWrong)

/-- 'beryllaw17.FindTold': WHATEVER THE INPUT: true; the input reads as it did. -/
def findToldSpec : ChangeSpec := { name := "findTold", fn := fun _ => fun
  | [d1, d2, d3, d4, d5, d6] => { results := [.lit (.bool true)], args := [d1, d2, d3, d4, d5, d6] }
  | _ => none }
def findToldRow : OpenClaim := { program := "ytjnceoohlcchnaa", sum := "783f3a7adf82ca3ad0974e2f65f9ade052dc48e006459fbbd6eccd3bb745ca04", func := "beryl/beryllaw17.FindTold", spec := "findTold", inPlace := ["slices.overlaps[beryl/api.Hint]"], unfollowed := true, recurses := true, plainKeys := false, apart := false }
def FindToldSaid : Prop := findToldRow.holds Try.pinned (OpenSpec.ofChange findToldSpec)

/-- ITS FALSE NEIGHBOUR: 'it returns false'. Refute it at one input. -/
def findToldWrong : ChangeSpec := { name := "findTold", fn := fun _ => fun
  | [d1, d2, d3, d4, d5, d6] => { results := [.lit (.bool false)], args := [d1, d2, d3, d4, d5, d6] }
  | _ => none }
def FindToldWrongFalsely : Prop := findToldRow.holds Try.pinned (OpenSpec.ofChange findToldWrong)

/-- 'beryllaw17.FindCrashed': WHATEVER THE INPUT: true; the input reads as it did. -/
def findCrashedSpec : ChangeSpec := { name := "findCrashed", fn := fun _ => fun
  | [d1, d2] => { results := [.lit (.bool true)], args := [d1, d2] }
  | _ => none }
def findCrashedRow : OpenClaim := { program := "ytjnceoohlcchnaa", sum := "783f3a7adf82ca3ad0974e2f65f9ade052dc48e006459fbbd6eccd3bb745ca04", func := "beryl/beryllaw17.FindCrashed", spec := "findCrashed", inPlace := ["slices.overlaps[beryl/api.Hint]"], unfollowed := true, recurses := true, plainKeys := false, apart := false }
def FindCrashedSaid : Prop := findCrashedRow.holds Try.pinned (OpenSpec.ofChange findCrashedSpec)

/-- ITS FALSE NEIGHBOUR: 'it returns false'. Refute it at one input. -/
def findCrashedWrong : ChangeSpec := { name := "findCrashed", fn := fun _ => fun
  | [d1, d2] => { results := [.lit (.bool false)], args := [d1, d2] }
  | _ => none }
def FindCrashedWrongFalsely : Prop := findCrashedRow.holds Try.pinned (OpenSpec.ofChange findCrashedWrong)

/- THE SECOND FORM. 'bulk': how many values and letters a reading holds, each counted each time it is reached (what is shared counts as often as it is met; a slice's spare places count too). A statement '..UptoSaid' is the law's where the arguments, and the package variables that the reading takes, are together of bulk at most 1048576: NARROWER than '..Said'. Prove '..Said' where nothing that the law and all that it calls make is longer than what came in: it says more and counts as full. Else prove '..UptoSaid'. A law counts once. -/
mutual
def uptoBulk {H : Type} : DataW H → Nat
  | .lit (.string bytes) => bytes.length + 1
  | .lit _ => 1
  | .nil => 1
  | .ptr d => uptoBulk d + 1
  | .slice elems spare => uptoBulkAll elems + uptoBulkAll spare + 1
  | .agg parts => uptoBulkAll parts + 1
  | .iface _ d => uptoBulk d + 1
  | .map entries => uptoBulkEntries entries + 1
  | .held _ => 1
def uptoBulkAll {H : Type} : List (DataW H) → Nat
  | [] => 0
  | d :: r => uptoBulk d + uptoBulkAll r
def uptoBulkEntries {H : Type} : List (Lit × DataW H) → Nat
  | [] => 0
  | x :: r => uptoBulkEntry x + uptoBulkEntries r
def uptoBulkEntry {H : Type} : Lit × DataW H → Nat
  | (.string bytes, d) => bytes.length + uptoBulk d + 1
  | (_, d) => uptoBulk d + 1
 end
def uptoSmall : (H : Type) → List (DataW H) → Bool := fun _ ds => decide (uptoBulkAll ds ≤ 1048576)
def OpenSpec.upto (s : _root_.Go.ChangeSpec) : _root_.Go.OpenSpec := { _root_.Go.OpenSpec.ofChange s with cond := some uptoSmall }

/-- 'beryllaw17.FindFound', WHERE WHAT IT READS IS OF BULK AT MOST 1048576: true; the input reads as it did. -/
def findFoundUptoRow : OpenClaim := { program := "ytjnceoohlcchnaa", sum := "783f3a7adf82ca3ad0974e2f65f9ade052dc48e006459fbbd6eccd3bb745ca04", func := "beryl/beryllaw17.FindFound", spec := "findFound", inPlace := ["slices.overlaps[beryl/api.Hint]"], unfollowed := true, recurses := true, plainKeys := false, apart := false, narrowed := true }
def FindFoundUptoSaid : Prop := findFoundUptoRow.holds Try.pinned (OpenSpec.upto findFoundSpec)

/-- 'beryllaw17.FindMoved', WHERE WHAT IT READS IS OF BULK AT MOST 1048576: true; the input reads as it did. -/
def findMovedUptoRow : OpenClaim := { program := "ytjnceoohlcchnaa", sum := "783f3a7adf82ca3ad0974e2f65f9ade052dc48e006459fbbd6eccd3bb745ca04", func := "beryl/beryllaw17.FindMoved", spec := "findMoved", inPlace := ["slices.overlaps[beryl/api.Hint]"], unfollowed := true, recurses := true, plainKeys := false, apart := false, narrowed := true }
def FindMovedUptoSaid : Prop := findMovedUptoRow.holds Try.pinned (OpenSpec.upto findMovedSpec)

/-- 'beryllaw17.FindMoves', WHERE WHAT IT READS IS OF BULK AT MOST 1048576: true; the input reads as it did. -/
def findMovesUptoRow : OpenClaim := { program := "ytjnceoohlcchnaa", sum := "783f3a7adf82ca3ad0974e2f65f9ade052dc48e006459fbbd6eccd3bb745ca04", func := "beryl/beryllaw17.FindMoves", spec := "findMoves", inPlace := ["slices.overlaps[beryl/api.Hint]"], unfollowed := true, recurses := true, plainKeys := false, apart := false, narrowed := true }
def FindMovesUptoSaid : Prop := findMovesUptoRow.holds Try.pinned (OpenSpec.upto findMovesSpec)

/-- 'beryllaw17.FindAgain', WHERE WHAT IT READS IS OF BULK AT MOST 1048576: true; the input reads as it did. -/
def findAgainUptoRow : OpenClaim := { program := "ytjnceoohlcchnaa", sum := "783f3a7adf82ca3ad0974e2f65f9ade052dc48e006459fbbd6eccd3bb745ca04", func := "beryl/beryllaw17.FindAgain", spec := "findAgain", inPlace := ["slices.overlaps[beryl/api.Hint]"], unfollowed := true, recurses := true, plainKeys := false, apart := false, narrowed := true }
def FindAgainUptoSaid : Prop := findAgainUptoRow.holds Try.pinned (OpenSpec.upto findAgainSpec)

/-- 'beryllaw17.FindChecks', WHERE WHAT IT READS IS OF BULK AT MOST 1048576: true; the input reads as it did. -/
def findChecksUptoRow : OpenClaim := { program := "ytjnceoohlcchnaa", sum := "783f3a7adf82ca3ad0974e2f65f9ade052dc48e006459fbbd6eccd3bb745ca04", func := "beryl/beryllaw17.FindChecks", spec := "findChecks", inPlace := ["slices.overlaps[beryl/api.Hint]"], unfollowed := true, recurses := true, plainKeys := false, apart := false, narrowed := true }
def FindChecksUptoSaid : Prop := findChecksUptoRow.holds Try.pinned (OpenSpec.upto findChecksSpec)

/-- 'beryllaw17.FindValid', WHERE WHAT IT READS IS OF BULK AT MOST 1048576: true; the input reads as it did. -/
def findValidUptoRow : OpenClaim := { program := "ytjnceoohlcchnaa", sum := "783f3a7adf82ca3ad0974e2f65f9ade052dc48e006459fbbd6eccd3bb745ca04", func := "beryl/beryllaw17.FindValid", spec := "findValid", inPlace := ["slices.overlaps[beryl/api.Hint]"], unfollowed := true, recurses := true, plainKeys := false, apart := false, narrowed := true }
def FindValidUptoSaid : Prop := findValidUptoRow.holds Try.pinned (OpenSpec.upto findValidSpec)

/-- 'beryllaw17.FindWays', WHERE WHAT IT READS IS OF BULK AT MOST 1048576: true; the input reads as it did. -/
def findWaysUptoRow : OpenClaim := { program := "ytjnceoohlcchnaa", sum := "783f3a7adf82ca3ad0974e2f65f9ade052dc48e006459fbbd6eccd3bb745ca04", func := "beryl/beryllaw17.FindWays", spec := "findWays", inPlace := ["slices.overlaps[beryl/api.Hint]"], unfollowed := true, recurses := true, plainKeys := false, apart := false, narrowed := true }
def FindWaysUptoSaid : Prop := findWaysUptoRow.holds Try.pinned (OpenSpec.upto findWaysSpec)

/-- 'beryllaw17.FindTold', WHERE WHAT IT READS IS OF BULK AT MOST 1048576: true; the input reads as it did. -/
def findToldUptoRow : OpenClaim := { program := "ytjnceoohlcchnaa", sum := "783f3a7adf82ca3ad0974e2f65f9ade052dc48e006459fbbd6eccd3bb745ca04", func := "beryl/beryllaw17.FindTold", spec := "findTold", inPlace := ["slices.overlaps[beryl/api.Hint]"], unfollowed := true, recurses := true, plainKeys := false, apart := false, narrowed := true }
def FindToldUptoSaid : Prop := findToldUptoRow.holds Try.pinned (OpenSpec.upto findToldSpec)

/-- 'beryllaw17.FindCrashed', WHERE WHAT IT READS IS OF BULK AT MOST 1048576: true; the input reads as it did. -/
def findCrashedUptoRow : OpenClaim := { program := "ytjnceoohlcchnaa", sum := "783f3a7adf82ca3ad0974e2f65f9ade052dc48e006459fbbd6eccd3bb745ca04", func := "beryl/beryllaw17.FindCrashed", spec := "findCrashed", inPlace := ["slices.overlaps[beryl/api.Hint]"], unfollowed := true, recurses := true, plainKeys := false, apart := false, narrowed := true }
def FindCrashedUptoSaid : Prop := findCrashedUptoRow.holds Try.pinned (OpenSpec.upto findCrashedSpec)

end Rows
end Go.Proofs.Ytjnceoohlcchnaa
