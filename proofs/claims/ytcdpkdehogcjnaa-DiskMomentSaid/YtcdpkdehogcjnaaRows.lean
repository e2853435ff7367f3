/-
  No cell of these rows narrows 'for every input' (looked for: loops, veiled, ifaces, maps, wideKeys, modest, calm, conditions, laid).
  DERIVED. THE GIVEN ROWS OF THIS SEAT. 5 by the template 'for every input the law returns true; each argument reads behind the call as it read before'; 0 by the template 'total and deterministic' (their statements: YtcdpkdehogcjnaaTotals.lean).
  GIVEN WITH THE SEED: the statements are not yours to turn. If you find one false, say at which input.
  Laid BY PROGRAM, IN A SANDBOX (cutbox-rows.mjs): the forced cells as the released guide's own fill.sh prints them over the translation 11c0e135f2386b8a… (all of the seat's roots in one cut). By AI agents, Wed Nov 11 2026. No macro, syntax, notation, axiom, sorry.
-/
import Derived.Test.YtcdpkdehogcjnaaChecked
import GoSem.Claim
import GoSem.ClaimJoined
import GoSem.ClaimMapViews
import Derived.JoinedTies
import Derived.KernelRfl
namespace Go.Proofs.Ytcdpkdehogcjnaa
/- THE CELL 'sum', in the pinned program and in every row, IS THE sha256 OF THE DUMP (.gsa) THAT YtcdpkdehogcjnaaProg.lean LOADS. Nothing in Lean hashes anything: it is a label: what it is worth is what the hold of that sum in a sandbox is worth. -/
noncomputable def Try.pinned : Pinned := { name := "ytcdpkdehogcjnaa", sum := "11c0e135f2386b8a3be4c99ce912ce63b039105d61c3cac4f41ee422aa9cdc74", checked := Try.checked }
namespace Rows
def none {H : Type} : Left H := { results := [], args := [] }

/-- 'beryllaw20.DiskFree': WHATEVER THE INPUT: true; the input reads as it did. -/
def diskFreeSpec : ChangeSpec := { name := "diskFree", fn := fun _ => fun
  | [d1, d2, d3, d4] => { results := [.lit (.bool true)], args := [d1, d2, d3, d4] }
  | _ => none }
def diskFreeRow : OpenClaim := { program := "ytcdpkdehogcjnaa", sum := "11c0e135f2386b8a3be4c99ce912ce63b039105d61c3cac4f41ee422aa9cdc74", func := "beryl/beryllaw20.DiskFree", spec := "diskFree", unfollowed := true, recurses := true, apart := false }
def DiskFreeSaid : Prop := diskFreeRow.holds Try.pinned (OpenSpec.ofChange diskFreeSpec)

/-- ITS FALSE NEIGHBOUR: 'it returns false'. Refute it at one input. -/
def diskFreeWrong : ChangeSpec := { name := "diskFree", fn := fun _ => fun
  | [d1, d2, d3, d4] => { results := [.lit (.bool false)], args := [d1, d2, d3, d4] }
  | _ => none }
def DiskFreeWrongFalsely : Prop := diskFreeRow.holds Try.pinned (OpenSpec.ofChange diskFreeWrong)

/-- 'beryllaw20.DiskRoom': WHATEVER THE INPUT: true; the input reads as it did. -/
def diskRoomSpec : ChangeSpec := { name := "diskRoom", fn := fun _ => fun
  | [d1, d2] => { results := [.lit (.bool true)], args := [d1, d2] }
  | _ => none }
def diskRoomRow : OpenClaim := { program := "ytcdpkdehogcjnaa", sum := "11c0e135f2386b8a3be4c99ce912ce63b039105d61c3cac4f41ee422aa9cdc74", func := "beryl/beryllaw20.DiskRoom", spec := "diskRoom", unfollowed := true, recurses := true, apart := false }
def DiskRoomSaid : Prop := diskRoomRow.holds Try.pinned (OpenSpec.ofChange diskRoomSpec)

/-- ITS FALSE NEIGHBOUR: 'it returns false'. Refute it at one input. -/
def diskRoomWrong : ChangeSpec := { name := "diskRoom", fn := fun _ => fun
  | [d1, d2] => { results := [.lit (.bool false)], args := [d1, d2] }
  | _ => none }
def DiskRoomWrongFalsely : Prop := diskRoomRow.holds Try.pinned (OpenSpec.ofChange diskRoomWrong)

/-- 'beryllaw20.DiskOpens': WHATEVER THE INPUT: true; the input reads as it did. -/
def diskOpensSpec : ChangeSpec := { name := "diskOpens", fn := fun _ => fun
  | [d1, d2, d3, d4] => { results := [.lit (.bool true)], args := [d1, d2, d3, d4] }
  | _ => none }
def diskOpensRow : OpenClaim := { program := "ytcdpkdehogcjnaa", sum := "11c0e135f2386b8a3be4c99ce912ce63b039105d61c3cac4f41ee422aa9cdc74", func := "beryl/beryllaw20.DiskOpens", spec := "diskOpens", unfollowed := true, recurses := true, apart := false }
def DiskOpensSaid : Prop := diskOpensRow.holds Try.pinned (OpenSpec.ofChange diskOpensSpec)

/-- ITS FALSE NEIGHBOUR: 'it returns false'. Refute it at one input. -/
def diskOpensWrong : ChangeSpec := { name := "diskOpens", fn := fun _ => fun
  | [d1, d2, d3, d4] => { results := [.lit (.bool false)], args := [d1, d2, d3, d4] }
  | _ => none }
def DiskOpensWrongFalsely : Prop := diskOpensRow.holds Try.pinned (OpenSpec.ofChange diskOpensWrong)

/-- 'beryllaw20.DiskMoment': WHATEVER THE INPUT: true; the input reads as it did. -/
def diskMomentSpec : ChangeSpec := { name := "diskMoment", fn := fun _ => fun
  | [d1, d2, d3, d4] => { results := [.lit (.bool true)], args := [d1, d2, d3, d4] }
  | _ => none }
def diskMomentRow : OpenClaim := { program := "ytcdpkdehogcjnaa", sum := "11c0e135f2386b8a3be4c99ce912ce63b039105d61c3cac4f41ee422aa9cdc74", func := "beryl/beryllaw20.DiskMoment", spec := "diskMoment", unfollowed := true, recurses := true, apart := false }
def DiskMomentSaid : Prop := diskMomentRow.holds Try.pinned (OpenSpec.ofChange diskMomentSpec)

/-- ITS FALSE NEIGHBOUR: 'it returns false'. Refute it at one input. -/
def diskMomentWrong : ChangeSpec := { name := "diskMoment", fn := fun _ => fun
  | [d1, d2, d3, d4] => { results := [.lit (.bool false)], args := [d1, d2, d3, d4] }
  | _ => none }
def DiskMomentWrongFalsely : Prop := diskMomentRow.holds Try.pinned (OpenSpec.ofChange diskMomentWrong)

/-- 'beryllaw20.DiskBack': WHATEVER THE INPUT: true; the input reads as it did. -/
def diskBackSpec : ChangeSpec := { name := "diskBack", fn := fun _ => fun
  | [d1, d2, d3, d4] => { results := [.lit (.bool true)], args := [d1, d2, d3, d4] }
  | _ => none }
def diskBackRow : OpenClaim := { program := "ytcdpkdehogcjnaa", sum := "11c0e135f2386b8a3be4c99ce912ce63b039105d61c3cac4f41ee422aa9cdc74", func := "beryl/beryllaw20.DiskBack", spec := "diskBack", unfollowed := true, recurses := true, apart := false }
def DiskBackSaid : Prop := diskBackRow.holds Try.pinned (OpenSpec.ofChange diskBackSpec)

/-- ITS FALSE NEIGHBOUR: 'it returns false'. Refute it at one input. -/
def diskBackWrong : ChangeSpec := { name := "diskBack", fn := fun _ => fun
  | [d1, d2, d3, d4] => { results := [.lit (.bool false)], args := [d1, d2, d3, d4] }
  | _ => none }
def DiskBackWrongFalsely : Prop := diskBackRow.holds Try.pinned (OpenSpec.ofChange diskBackWrong)

/- THE SECOND FORM. 'bulk': how many values and letters a reading holds, each counted each time it is reached (what is shared counts as often as it is met; a slice's spare places count too). A statement '..UptoSaid' is the law's where the arguments, and the package variables that the reading takes, are together of bulk at most 1048576: NARROWER than '..Said'. Prove '..Said' where nothing that the law and all that it calls make is longer than what came in: it says more and counts as full. Else prove '..UptoSaid'. A law counts once. -/
mutual
def uptoBulk {H : Type} : DataW H → Nat
  | .lit (.string bytes) => bytes.length + 1
  | .lit _ => 1
  | .nil => 1
  | .ptr d => uptoBulk d + 1
  | .slice elems spare => uptoBulkAll elems + uptoBulkAll spare + 1
  | .agg parts => uptoBulkAll parts + 1
  | .iface _ d => uptoBulk d + 1
  | .map entries => uptoBulkEntries entries + 1
  | .held _ => 1
def uptoBulkAll {H : Type} : List (DataW H) → Nat
  | [] => 0
  | d :: r => uptoBulk d + uptoBulkAll r
def uptoBulkEntries {H : Type} : List (Lit × DataW H) → Nat
  | [] => 0
  | x :: r => uptoBulkEntry x + uptoBulkEntries r
def uptoBulkEntry {H : Type} : Lit × DataW H → Nat
  | (.string bytes, d) => bytes.length + uptoBulk d + 1
  | (_, d) => uptoBulk d + 1
 end
def uptoSmall : (H : Type) → List (DataW H) → Bool := fun _ ds => decide (uptoBulkAll ds ≤ 1048576)
def OpenSpec.upto (s : _root_.Go.ChangeSpec) : _root_.Go.OpenSpec := { _root_.Go.OpenSpec.ofChange s with cond := some uptoSmall }

/-- 'beryllaw20.DiskFree', WHERE WHAT IT READS IS OF BULK AT MOST 1048576: true; the input reads as it did. -/
def diskFreeUptoRow : OpenClaim := { program := "ytcdpkdehogcjnaa", sum := "11c0e135f2386b8a3be4c99ce912ce63b039105d61c3cac4f41ee422aa9cdc74", func := "beryl/beryllaw20.DiskFree", spec := "diskFree", unfollowed := true, recurses := true, apart := false, narrowed := true }
def DiskFreeUptoSaid : Prop := diskFreeUptoRow.holds Try.pinned (OpenSpec.upto diskFreeSpec)

/-- 'beryllaw20.DiskRoom', WHERE WHAT IT READS IS OF BULK AT MOST 1048576: true; the input reads as it did. -/
def diskRoomUptoRow : OpenClaim := { program := "ytcdpkdehogcjnaa", sum := "11c0e135f2386b8a3be4c99ce912ce63b039105d61c3cac4f41ee422aa9cdc74", func := "beryl/beryllaw20.DiskRoom", spec := "diskRoom", unfollowed := true, recurses := true, apart := false, narrowed := true }
def DiskRoomUptoSaid : Prop := diskRoomUptoRow.holds Try.pinned (OpenSpec.upto diskRoomSpec)

/-- 'beryllaw20.DiskOpens', WHERE WHAT IT READS IS OF BULK AT MOST 1048576: true; the input reads as it did. -/
def diskOpensUptoRow : OpenClaim := { program := "ytcdpkdehogcjnaa", sum := "11c0e135f2386b8a3be4c99ce912ce63b039105d61c3cac4f41ee422aa9cdc74", func := "beryl/beryllaw20.DiskOpens", spec := "diskOpens", unfollowed := true, recurses := true, apart := false, narrowed := true }
def DiskOpensUptoSaid : Prop := diskOpensUptoRow.holds Try.pinned (OpenSpec.upto diskOpensSpec)

/-- 'beryllaw20.DiskMoment', WHERE WHAT IT READS IS OF BULK AT MOST 1048576: true; the input reads as it did. -/
def diskMomentUptoRow : OpenClaim := { program := "ytcdpkdehogcjnaa", sum := "11c0e135f2386b8a3be4c99ce912ce63b039105d61c3cac4f41ee422aa9cdc74", func := "beryl/beryllaw20.DiskMoment", spec := "diskMoment", unfollowed := true, recurses := true, apart := false, narrowed := true }
def DiskMomentUptoSaid : Prop := diskMomentUptoRow.holds Try.pinned (OpenSpec.upto diskMomentSpec)

/-- 'beryllaw20.DiskBack', WHERE WHAT IT READS IS OF BULK AT MOST 1048576: true; the input reads as it did. -/
def diskBackUptoRow : OpenClaim := { program := "ytcdpkdehogcjnaa", sum := "11c0e135f2386b8a3be4c99ce912ce63b039105d61c3cac4f41ee422aa9cdc74", func := "beryl/beryllaw20.DiskBack", spec := "diskBack", unfollowed := true, recurses := true, apart := false, narrowed := true }
def DiskBackUptoSaid : Prop := diskBackUptoRow.holds Try.pinned (OpenSpec.upto diskBackSpec)

end Rows
end Go.Proofs.Ytcdpkdehogcjnaa
