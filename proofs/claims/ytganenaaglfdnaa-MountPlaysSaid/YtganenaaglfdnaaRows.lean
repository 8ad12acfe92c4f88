/-
  No cell of these rows narrows 'for every input' (looked for: loops, veiled, ifaces, maps, wideKeys, modest, calm, conditions, laid).
  DERIVED. THE GIVEN ROWS OF THIS SEAT. 7 by the template 'for every input the law returns true; each argument reads behind the call as it read before'; 0 by the template 'total and deterministic' (their statements: YtganenaaglfdnaaTotals.lean).
  GIVEN WITH THE SEED: the statements are not yours to turn. If you find one false, say at which input.
  Laid BY PROGRAM, IN A SANDBOX (cutbox-rows.mjs): the forced cells as the released guide's own fill.sh prints them over the translation 89d3cba82a3f0cd9… (all of the seat's roots in one cut). By AI agents, Wed Nov 11 2026. No macro, syntax, notation, axiom, sorry.
-/
import Derived.Test.YtganenaaglfdnaaChecked
import GoSem.Claim
import GoSem.ClaimJoined
import GoSem.ClaimMapViews
import Derived.JoinedTies
import Derived.KernelRfl
namespace Go.Proofs.Ytganenaaglfdnaa
/- THE CELL 'sum', in the pinned program and in every row, IS THE sha256 OF THE DUMP (.gsa) THAT YtganenaaglfdnaaProg.lean LOADS. Nothing in Lean hashes anything: it is a label: what it is worth is what the hold of that sum in a sandbox is worth. -/
noncomputable def Try.pinned : Pinned := { name := "ytganenaaglfdnaa", sum := "89d3cba82a3f0cd9d176f0ebc4a1d9ba770a60d2c7d6122a5beb3cbbc15fa27f", checked := Try.checked }
namespace Rows
def none {H : Type} : Left H := { results := [], args := [] }

/-- 'filespacelaw42.MountRight': WHATEVER THE INPUT: true; the input reads as it did. -/
def mountRightSpec : ChangeSpec := { name := "mountRight", fn := fun _ => fun
  | [d1, d2] => { results := [.lit (.bool true)], args := [d1, d2] }
  | _ => none }
def mountRightRow : OpenClaim := { program := "ytganenaaglfdnaa", sum := "89d3cba82a3f0cd9d176f0ebc4a1d9ba770a60d2c7d6122a5beb3cbbc15fa27f", func := "filespace/filespacelaw42.MountRight", spec := "mountRight", unfollowed := true, recurses := true, apart := false }
def MountRightSaid : Prop := mountRightRow.holds Try.pinned (OpenSpec.ofChange mountRightSpec)

/-- ITS FALSE NEIGHBOUR: 'it returns false'. Refute it at one input. -/
def mountRightWrong : ChangeSpec := { name := "mountRight", fn := fun _ => fun
  | [d1, d2] => { results := [.lit (.bool false)], args := [d1, d2] }
  | _ => none }
def MountRightWrongFalsely : Prop := mountRightRow.holds Try.pinned (OpenSpec.ofChange mountRightWrong)

/-- 'filespacelaw42.MountCalls': WHATEVER THE INPUT: true; the input reads as it did. -/
def mountCallsSpec : ChangeSpec := { name := "mountCalls", fn := fun _ => fun
  | [d1, d2] => { results := [.lit (.bool true)], args := [d1, d2] }
  | _ => none }
def mountCallsRow : OpenClaim := { program := "ytganenaaglfdnaa", sum := "89d3cba82a3f0cd9d176f0ebc4a1d9ba770a60d2c7d6122a5beb3cbbc15fa27f", func := "filespace/filespacelaw42.MountCalls", spec := "mountCalls", unfollowed := true, recurses := true, apart := false }
def MountCallsSaid : Prop := mountCallsRow.holds Try.pinned (OpenSpec.ofChange mountCallsSpec)

/-- ITS FALSE NEIGHBOUR: 'it returns false'. Refute it at one input. -/
def mountCallsWrong : ChangeSpec := { name := "mountCalls", fn := fun _ => fun
  | [d1, d2] => { results := [.lit (.bool false)], args := [d1, d2] }
  | _ => none }
def MountCallsWrongFalsely : Prop := mountCallsRow.holds Try.pinned (OpenSpec.ofChange mountCallsWrong)

/-- 'filespacelaw42.MountUnions': WHATEVER THE INPUT: true; the input reads as it did. -/
def mountUnionsSpec : ChangeSpec := { name := "mountUnions", fn := fun _ => fun
  | [d1, d2] => { results := [.lit (.bool true)], args := [d1, d2] }
  | _ => none }
def mountUnionsRow : OpenClaim := { program := "ytganenaaglfdnaa", sum := "89d3cba82a3f0cd9d176f0ebc4a1d9ba770a60d2c7d6122a5beb3cbbc15fa27f", func := "filespace/filespacelaw42.MountUnions", spec := "mountUnions", unfollowed := true, recurses := true, apart := false }
def MountUnionsSaid : Prop := mountUnionsRow.holds Try.pinned (OpenSpec.ofChange mountUnionsSpec)

/-- ITS FALSE NEIGHBOUR: 'it returns false'. Refute it at one input. -/
def mountUnionsWrong : ChangeSpec := { name := "mountUnions", fn := fun _ => fun
  | [d1, d2] => { results := [.lit (.bool false)], args := [d1, d2] }
  | _ => none }
def MountUnionsWrongFalsely : Prop := mountUnionsRow.holds Try.pinned (OpenSpec.ofChange mountUnionsWrong)

/-- 'filespacelaw42.MountSame': WHATEVER THE INPUT: true; the input reads as it did. -/
def mountSameSpec : ChangeSpec := { name := "mountSame", fn := fun _ => fun
  | [d1, d2] => { results := [.lit (.bool true)], args := [d1, d2] }
  | _ => none }
def mountSameRow : OpenClaim := { program := "ytganenaaglfdnaa", sum := "89d3cba82a3f0cd9d176f0ebc4a1d9ba770a60d2c7d6122a5beb3cbbc15fa27f", func := "filespace/filespacelaw42.MountSame", spec := "mountSame", unfollowed := true, recurses := true, apart := false }
def MountSameSaid : Prop := mountSameRow.holds Try.pinned (OpenSpec.ofChange mountSameSpec)

/-- ITS FALSE NEIGHBOUR: 'it returns false'. Refute it at one input. -/
def mountSameWrong : ChangeSpec := { name := "mountSame", fn := fun _ => fun
  | [d1, d2] => { results := [.lit (.bool false)], args := [d1, d2] }
  | _ => none }
def MountSameWrongFalsely : Prop := mountSameRow.holds Try.pinned (OpenSpec.ofChange mountSameWrong)

/-- 'filespacelaw42.MountPlays': WHATEVER THE INPUT: true; the input reads as it did. -/
def mountPlaysSpec : ChangeSpec := { name := "mountPlays", fn := fun _ => fun
  | [d1, d2] => { results := [.lit (.bool true)], args := [d1, d2] }
  | _ => none }
def mountPlaysRow : OpenClaim := { program := "ytganenaaglfdnaa", sum := "89d3cba82a3f0cd9d176f0ebc4a1d9ba770a60d2c7d6122a5beb3cbbc15fa27f", func := "filespace/filespacelaw42.MountPlays", spec := "mountPlays", unfollowed := true, recurses := true, apart := false }
def MountPlaysSaid : Prop := mountPlaysRow.holds Try.pinned (OpenSpec.ofChange mountPlaysSpec)

/-- ITS FALSE NEIGHBOUR: 'it returns false'. Refute it at one input. -/
def mountPlaysWrong : ChangeSpec := { name := "mountPlays", fn := fun _ => fun
  | [d1, d2] => { results := [.lit (.bool false)], args := [d1, d2] }
  | _ => none }
def MountPlaysWrongFalsely : Prop := mountPlaysRow.holds Try.pinned (OpenSpec.ofChange mountPlaysWrong)

/-- 'filespacelaw42.MountUndo': WHATEVER THE INPUT: true; the input reads as it did. -/
def mountUndoSpec : ChangeSpec := { name := "mountUndo", fn := fun _ => fun
  | [d1, d2] => { results := [.lit (.bool true)], args := [d1, d2] }
  | _ => none }
def mountUndoRow : OpenClaim := { program := "ytganenaaglfdnaa", sum := "89d3cba82a3f0cd9d176f0ebc4a1d9ba770a60d2c7d6122a5beb3cbbc15fa27f", func := "filespace/filespacelaw42.MountUndo", spec := "mountUndo", unfollowed := true, recurses := true, apart := false }
def MountUndoSaid : Prop := mountUndoRow.holds Try.pinned (OpenSpec.ofChange mountUndoSpec)

/-- ITS FALSE NEIGHBOUR: 'it returns false'. Refute it at one input. -/
def mountUndoWrong : ChangeSpec := { name := "mountUndo", fn := fun _ => fun
  | [d1, d2] => { results := [.lit (.bool false)], args := [d1, d2] }
  | _ => none }
def MountUndoWrongFalsely : Prop := mountUndoRow.holds Try.pinned (OpenSpec.ofChange mountUndoWrong)

/-- 'filespacelaw42.MountApart': WHATEVER THE INPUT: true; the input reads as it did. -/
def mountApartSpec : ChangeSpec := { name := "mountApart", fn := fun _ => fun
  | [d1, d2, d3] => { results := [.lit (.bool true)], args := [d1, d2, d3] }
  | _ => none }
def mountApartRow : OpenClaim := { program := "ytganenaaglfdnaa", sum := "89d3cba82a3f0cd9d176f0ebc4a1d9ba770a60d2c7d6122a5beb3cbbc15fa27f", func := "filespace/filespacelaw42.MountApart", spec := "mountApart", unfollowed := true, recurses := true, apart := false }
def MountApartSaid : Prop := mountApartRow.holds Try.pinned (OpenSpec.ofChange mountApartSpec)

/-- ITS FALSE NEIGHBOUR: 'it returns false'. Refute it at one input. -/
def mountApartWrong : ChangeSpec := { name := "mountApart", fn := fun _ => fun
  | [d1, d2, d3] => { results := [.lit (.bool false)], args := [d1, d2, d3] }
  | _ => none }
def MountApartWrongFalsely : Prop := mountApartRow.holds Try.pinned (OpenSpec.ofChange mountApartWrong)

/- THE SECOND FORM. 'bulk': how many values and letters a reading holds, each counted each time it is reached (what is shared counts as often as it is met; a slice's spare places count too). A statement '..UptoSaid' is the law's where the arguments, and the package variables that the reading takes, are together of bulk at most 1048576: NARROWER than '..Said'. Prove '..Said' where nothing that the law and all that it calls make is longer than what came in: it says more and counts as full. Else prove '..UptoSaid'. A law counts once. -/
mutual
def uptoBulk {H : Type} : DataW H → Nat
  | .lit (.string bytes) => bytes.length + 1
  | .lit _ => 1
  | .nil => 1
  | .ptr d => uptoBulk d + 1
  | .slice elems spare => uptoBulkAll elems + uptoBulkAll spare + 1
  | .agg parts => uptoBulkAll parts + 1
  | .iface _ d => uptoBulk d + 1
  | .map entries => uptoBulkEntries entries + 1
  | .held _ => 1
def uptoBulkAll {H : Type} : List (DataW H) → Nat
  | [] => 0
  | d :: r => uptoBulk d + uptoBulkAll r
def uptoBulkEntries {H : Type} : List (Lit × DataW H) → Nat
  | [] => 0
  | x :: r => uptoBulkEntry x + uptoBulkEntries r
def uptoBulkEntry {H : Type} : Lit × DataW H → Nat
  | (.string bytes, d) => bytes.length + uptoBulk d + 1
  | (_, d) => uptoBulk d + 1
 end
def uptoSmall : (H : Type) → List (DataW H) → Bool := fun _ ds => decide (uptoBulkAll ds ≤ 1048576)
def OpenSpec.upto (s : _root_.Go.ChangeSpec) : _root_.Go.OpenSpec := { _root_.Go.OpenSpec.ofChange s with cond := some uptoSmall }

/-- 'filespacelaw42.MountRight', WHERE WHAT IT READS IS OF BULK AT MOST 1048576: true; the input reads as it did. -/
def mountRightUptoRow : OpenClaim := { program := "ytganenaaglfdnaa", sum := "89d3cba82a3f0cd9d176f0ebc4a1d9ba770a60d2c7d6122a5beb3cbbc15fa27f", func := "filespace/filespacelaw42.MountRight", spec := "mountRight", unfollowed := true, recurses := true, apart := false, narrowed := true }
def MountRightUptoSaid : Prop := mountRightUptoRow.holds Try.pinned (OpenSpec.upto mountRightSpec)

/-- 'filespacelaw42.MountCalls', WHERE WHAT IT READS IS OF BULK AT MOST 1048576: true; the input reads as it did. -/
def mountCallsUptoRow : OpenClaim := { program := "ytganenaaglfdnaa", sum := "89d3cba82a3f0cd9d176f0ebc4a1d9ba770a60d2c7d6122a5beb3cbbc15fa27f", func := "filespace/filespacelaw42.MountCalls", spec := "mountCalls", unfollowed := true, recurses := true, apart := false, narrowed := true }
def MountCallsUptoSaid : Prop := mountCallsUptoRow.holds Try.pinned (OpenSpec.upto mountCallsSpec)

/-- 'filespacelaw42.MountUnions', WHERE WHAT IT READS IS OF BULK AT MOST 1048576: true; the input reads as it did. -/
def mountUnionsUptoRow : OpenClaim := { program := "ytganenaaglfdnaa", sum := "89d3cba82a3f0cd9d176f0ebc4a1d9ba770a60d2c7d6122a5beb3cbbc15fa27f", func := "filespace/filespacelaw42.MountUnions", spec := "mountUnions", unfollowed := true, recurses := true, apart := false, narrowed := true }
def MountUnionsUptoSaid : Prop := mountUnionsUptoRow.holds Try.pinned (OpenSpec.upto mountUnionsSpec)

/-- 'filespacelaw42.MountSame', WHERE WHAT IT READS IS OF BULK AT MOST 1048576: true; the input reads as it did. -/
def mountSameUptoRow : OpenClaim := { program := "ytganenaaglfdnaa", sum := "89d3cba82a3f0cd9d176f0ebc4a1d9ba770a60d2c7d6122a5beb3cbbc15fa27f", func := "filespace/filespacelaw42.MountSame", spec := "mountSame", unfollowed := true, recurses := true, apart := false, narrowed := true }
def MountSameUptoSaid : Prop := mountSameUptoRow.holds Try.pinned (OpenSpec.upto mountSameSpec)

/-- 'filespacelaw42.MountPlays', WHERE WHAT IT READS IS OF BULK AT MOST 1048576: true; the input reads as it did. -/
def mountPlaysUptoRow : OpenClaim := { program := "ytganenaaglfdnaa", sum := "89d3cba82a3f0cd9d176f0ebc4a1d9ba770a60d2c7d6122a5beb3cbbc15fa27f", func := "filespace/filespacelaw42.MountPlays", spec := "mountPlays", unfollowed := true, recurses := true, apart := false, narrowed := true }
def MountPlaysUptoSaid : Prop := mountPlaysUptoRow.holds Try.pinned (OpenSpec.upto mountPlaysSpec)

/-- 'filespacelaw42.MountUndo', WHERE WHAT IT READS IS OF BULK AT MOST 1048576: true; the input reads as it did. -/
def mountUndoUptoRow : OpenClaim := { program := "ytganenaaglfdnaa", sum := "89d3cba82a3f0cd9d176f0ebc4a1d9ba770a60d2c7d6122a5beb3cbbc15fa27f", func := "filespace/filespacelaw42.MountUndo", spec := "mountUndo", unfollowed := true, recurses := true, apart := false, narrowed := true }
def MountUndoUptoSaid : Prop := mountUndoUptoRow.holds Try.pinned (OpenSpec.upto mountUndoSpec)

/-- 'filespacelaw42.MountApart', WHERE WHAT IT READS IS OF BULK AT MOST 1048576: true; the input reads as it did. -/
def mountApartUptoRow : OpenClaim := { program := "ytganenaaglfdnaa", sum := "89d3cba82a3f0cd9d176f0ebc4a1d9ba770a60d2c7d6122a5beb3cbbc15fa27f", func := "filespace/filespacelaw42.MountApart", spec := "mountApart", unfollowed := true, recurses := true, apart := false, narrowed := true }
def MountApartUptoSaid : Prop := mountApartUptoRow.holds Try.pinned (OpenSpec.upto mountApartSpec)

end Rows
end Go.Proofs.Ytganenaaglfdnaa
