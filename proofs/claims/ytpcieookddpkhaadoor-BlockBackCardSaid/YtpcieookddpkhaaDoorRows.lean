/-
  NARROWER THAN 'FOR EVERY INPUT', by the rows' own cells (each row's printed sentence says how): BlockReads: laid · BlockPuts: laid · BlockLoads: laid · BlockKeeps: laid · BlockBack: laid.
  DERIVED. THE GIVEN ROWS OF THIS SEAT. 5 by the template 'for every input the law returns true; each argument reads behind the call as it read before'; 0 by the template 'total and deterministic' (their statements: YtpcieookddpkhaaDoorTotals.lean).
  GIVEN WITH THE SEED: the statements are not yours to turn. If you find one false, say at which input.
  Laid BY PROGRAM, IN A SANDBOX (cutbox-rows.mjs): the forced cells as the released guide's own fill.sh prints them over the translation 32a80535c2d391de… (all of the seat's roots in one cut). By AI agents, Wed Nov 11 2026. No macro, syntax, notation, axiom, sorry.
-/
import Derived.Test.YtpcieookddpkhaaDoorChecked
import GoSem.Claim
import GoSem.ClaimJoined
import GoSem.ClaimMapViews
import Derived.JoinedTies
import Derived.KernelRfl
namespace Go.Proofs.YtpcieookddpkhaaDoor
/- THE CELL 'sum', in the pinned program and in every row, IS THE sha256 OF THE DUMP (.gsa) THAT YtpcieookddpkhaaDoorProg.lean LOADS. Nothing in Lean hashes anything: it is a label: what it is worth is what the hold of that sum in a sandbox is worth. -/
noncomputable def Tryd.pinned : Pinned := { name := "ytpcieookddpkhaadoor", sum := "32a80535c2d391deafc78207dcfa0baaaa302f868ed3c981a38dbe4b4a6d8a2d", checked := Tryd.checked }
namespace Rows
def none {H : Type} : Left H := { results := [], args := [] }

/- WHAT THE LISTED PACKAGE-LEVEL VARIABLES READ AS WHEN THE CALL BEGINS. Each datum BY PROGRAM (the guide's laid-datum.mjs) off the statement by which the dump's own 'gosem.cut.vars' lays the variable. In a bare row this is a premise. The card (YtpcieookddpkhaaDoorCards.lean) ties it to the program's text. -/
def laid_filespace_hash_rounds {H : Type} : DataW H := .agg [.lit (.int .u32 1116352408), .lit (.int .u32 1899447441), .lit (.int .u32 3049323471), .lit (.int .u32 3921009573), .lit (.int .u32 961987163), .lit (.int .u32 1508970993), .lit (.int .u32 2453635748), .lit (.int .u32 2870763221), .lit (.int .u32 3624381080), .lit (.int .u32 310598401), .lit (.int .u32 607225278), .lit (.int .u32 1426881987), .lit (.int .u32 1925078388), .lit (.int .u32 2162078206), .lit (.int .u32 2614888103), .lit (.int .u32 3248222580), .lit (.int .u32 3835390401), .lit (.int .u32 4022224774), .lit (.int .u32 264347078), .lit (.int .u32 604807628), .lit (.int .u32 770255983), .lit (.int .u32 1249150122), .lit (.int .u32 1555081692), .lit (.int .u32 1996064986), .lit (.int .u32 2554220882), .lit (.int .u32 2821834349), .lit (.int .u32 2952996808), .lit (.int .u32 3210313671), .lit (.int .u32 3336571891), .lit (.int .u32 3584528711), .lit (.int .u32 113926993), .lit (.int .u32 338241895), .lit (.int .u32 666307205), .lit (.int .u32 773529912), .lit (.int .u32 1294757372), .lit (.int .u32 1396182291), .lit (.int .u32 1695183700), .lit (.int .u32 1986661051), .lit (.int .u32 2177026350), .lit (.int .u32 2456956037), .lit (.int .u32 2730485921), .lit (.int .u32 2820302411), .lit (.int .u32 3259730800), .lit (.int .u32 3345764771), .lit (.int .u32 3516065817), .lit (.int .u32 3600352804), .lit (.int .u32 4094571909), .lit (.int .u32 275423344), .lit (.int .u32 430227734), .lit (.int .u32 506948616), .lit (.int .u32 659060556), .lit (.int .u32 883997877), .lit (.int .u32 958139571), .lit (.int .u32 1322822218), .lit (.int .u32 1537002063), .lit (.int .u32 1747873779), .lit (.int .u32 1955562222), .lit (.int .u32 2024104815), .lit (.int .u32 2227730452), .lit (.int .u32 2361852424), .lit (.int .u32 2428436474), .lit (.int .u32 2756734187), .lit (.int .u32 3204031479), .lit (.int .u32 3329325298)]

/-- 'filespacelaw15.BlockReads': WHATEVER THE INPUT: true; the input reads as it did. -/
def blockReadsSpec : ChangeSpec := { name := "blockReads", fn := fun _ => fun
  | [d1, d2, d3] => { results := [.lit (.bool true)], args := [d1, d2, d3] }
  | _ => none }
def blockReadsRow : OpenClaim := { program := "ytpcieookddpkhaadoor", sum := "32a80535c2d391deafc78207dcfa0baaaa302f868ed3c981a38dbe4b4a6d8a2d", func := "filespace/filespacelaw15.BlockReads", spec := "blockReads", inPlace := ["internal/abi.NoEscape"], unfollowed := true, recurses := true, named := ["filespace/hash.rounds"], apart := false, laid := [("filespace/hash.rounds", laid_filespace_hash_rounds)] }
def BlockReadsSaid : Prop := blockReadsRow.holds Tryd.pinned (OpenSpec.ofChange blockReadsSpec)

/-- ITS FALSE NEIGHBOUR: 'it returns false'. Refute it at one input. -/
def blockReadsWrong : ChangeSpec := { name := "blockReads", fn := fun _ => fun
  | [d1, d2, d3] => { results := [.lit (.bool false)], args := [d1, d2, d3] }
  | _ => none }
def BlockReadsWrongFalsely : Prop := blockReadsRow.holds Tryd.pinned (OpenSpec.ofChange blockReadsWrong)

/-- 'filespacelaw15.BlockPuts': WHATEVER THE INPUT: true; the input reads as it did. -/
def blockPutsSpec : ChangeSpec := { name := "blockPuts", fn := fun _ => fun
  | [d1, d2, d3] => { results := [.lit (.bool true)], args := [d1, d2, d3] }
  | _ => none }
def blockPutsRow : OpenClaim := { program := "ytpcieookddpkhaadoor", sum := "32a80535c2d391deafc78207dcfa0baaaa302f868ed3c981a38dbe4b4a6d8a2d", func := "filespace/filespacelaw15.BlockPuts", spec := "blockPuts", inPlace := ["internal/abi.NoEscape"], unfollowed := true, recurses := true, named := ["filespace/hash.rounds"], apart := false, laid := [("filespace/hash.rounds", laid_filespace_hash_rounds)] }
def BlockPutsSaid : Prop := blockPutsRow.holds Tryd.pinned (OpenSpec.ofChange blockPutsSpec)

/-- ITS FALSE NEIGHBOUR: 'it returns false'. Refute it at one input. -/
def blockPutsWrong : ChangeSpec := { name := "blockPuts", fn := fun _ => fun
  | [d1, d2, d3] => { results := [.lit (.bool false)], args := [d1, d2, d3] }
  | _ => none }
def BlockPutsWrongFalsely : Prop := blockPutsRow.holds Tryd.pinned (OpenSpec.ofChange blockPutsWrong)

/-- 'filespacelaw15.BlockLoads': WHATEVER THE INPUT: true; the input reads as it did. -/
def blockLoadsSpec : ChangeSpec := { name := "blockLoads", fn := fun _ => fun
  | [d1, d2] => { results := [.lit (.bool true)], args := [d1, d2] }
  | _ => none }
def blockLoadsRow : OpenClaim := { program := "ytpcieookddpkhaadoor", sum := "32a80535c2d391deafc78207dcfa0baaaa302f868ed3c981a38dbe4b4a6d8a2d", func := "filespace/filespacelaw15.BlockLoads", spec := "blockLoads", inPlace := ["internal/abi.NoEscape"], unfollowed := true, recurses := true, named := ["filespace/hash.rounds"], apart := false, laid := [("filespace/hash.rounds", laid_filespace_hash_rounds)] }
def BlockLoadsSaid : Prop := blockLoadsRow.holds Tryd.pinned (OpenSpec.ofChange blockLoadsSpec)

/-- ITS FALSE NEIGHBOUR: 'it returns false'. Refute it at one input. -/
def blockLoadsWrong : ChangeSpec := { name := "blockLoads", fn := fun _ => fun
  | [d1, d2] => { results := [.lit (.bool false)], args := [d1, d2] }
  | _ => none }
def BlockLoadsWrongFalsely : Prop := blockLoadsRow.holds Tryd.pinned (OpenSpec.ofChange blockLoadsWrong)

/-- 'filespacelaw15.BlockKeeps': WHATEVER THE INPUT: true; the input reads as it did. -/
def blockKeepsSpec : ChangeSpec := { name := "blockKeeps", fn := fun _ => fun
  | [d1, d2] => { results := [.lit (.bool true)], args := [d1, d2] }
  | _ => none }
def blockKeepsRow : OpenClaim := { program := "ytpcieookddpkhaadoor", sum := "32a80535c2d391deafc78207dcfa0baaaa302f868ed3c981a38dbe4b4a6d8a2d", func := "filespace/filespacelaw15.BlockKeeps", spec := "blockKeeps", inPlace := ["internal/abi.NoEscape"], unfollowed := true, recurses := true, named := ["filespace/hash.rounds"], apart := false, laid := [("filespace/hash.rounds", laid_filespace_hash_rounds)] }
def BlockKeepsSaid : Prop := blockKeepsRow.holds Tryd.pinned (OpenSpec.ofChange blockKeepsSpec)

/-- ITS FALSE NEIGHBOUR: 'it returns false'. Refute it at one input. -/
def blockKeepsWrong : ChangeSpec := { name := "blockKeeps", fn := fun _ => fun
  | [d1, d2] => { results := [.lit (.bool false)], args := [d1, d2] }
  | _ => none }
def BlockKeepsWrongFalsely : Prop := blockKeepsRow.holds Tryd.pinned (OpenSpec.ofChange blockKeepsWrong)

/-- 'filespacelaw15.BlockBack': WHATEVER THE INPUT: true; the input reads as it did. -/
def blockBackSpec : ChangeSpec := { name := "blockBack", fn := fun _ => fun
  | [d1, d2, d3] => { results := [.lit (.bool true)], args := [d1, d2, d3] }
  | _ => none }
def blockBackRow : OpenClaim := { program := "ytpcieookddpkhaadoor", sum := "32a80535c2d391deafc78207dcfa0baaaa302f868ed3c981a38dbe4b4a6d8a2d", func := "filespace/filespacelaw15.BlockBack", spec := "blockBack", inPlace := ["internal/abi.NoEscape"], unfollowed := true, recurses := true, named := ["filespace/hash.rounds"], apart := false, laid := [("filespace/hash.rounds", laid_filespace_hash_rounds)] }
def BlockBackSaid : Prop := blockBackRow.holds Tryd.pinned (OpenSpec.ofChange blockBackSpec)

/-- ITS FALSE NEIGHBOUR: 'it returns false'. Refute it at one input. -/
def blockBackWrong : ChangeSpec := { name := "blockBack", fn := fun _ => fun
  | [d1, d2, d3] => { results := [.lit (.bool false)], args := [d1, d2, d3] }
  | _ => none }
def BlockBackWrongFalsely : Prop := blockBackRow.holds Tryd.pinned (OpenSpec.ofChange blockBackWrong)

/- THE SECOND FORM. 'bulk': how many values and letters a reading holds, each counted each time it is reached (what is shared counts as often as it is met; a slice's spare places count too). A statement '..UptoSaid' is the law's where the arguments, and the package variables that the reading takes, are together of bulk at most 1048576: NARROWER than '..Said'. Prove '..Said' where nothing that the law and all that it calls make is longer than what came in: it says more and counts as full. Else prove '..UptoSaid'. A law counts once. -/
mutual
def uptoBulk {H : Type} : DataW H → Nat
  | .lit (.string bytes) => bytes.length + 1
  | .lit _ => 1
  | .nil => 1
  | .ptr d => uptoBulk d + 1
  | .slice elems spare => uptoBulkAll elems + uptoBulkAll spare + 1
  | .agg parts => uptoBulkAll parts + 1
  | .iface _ d => uptoBulk d + 1
  | .map entries => uptoBulkEntries entries + 1
  | .held _ => 1
def uptoBulkAll {H : Type} : List (DataW H) → Nat
  | [] => 0
  | d :: r => uptoBulk d + uptoBulkAll r
def uptoBulkEntries {H : Type} : List (Lit × DataW H) → Nat
  | [] => 0
  | x :: r => uptoBulkEntry x + uptoBulkEntries r
def uptoBulkEntry {H : Type} : Lit × DataW H → Nat
  | (.string bytes, d) => bytes.length + uptoBulk d + 1
  | (_, d) => uptoBulk d + 1
 end
def uptoSmall : (H : Type) → List (DataW H) → Bool := fun _ ds => decide (uptoBulkAll ds ≤ 1048576)
def OpenSpec.upto (s : _root_.Go.ChangeSpec) : _root_.Go.OpenSpec := { _root_.Go.OpenSpec.ofChange s with cond := some uptoSmall }

/-- 'filespacelaw15.BlockReads', WHERE WHAT IT READS IS OF BULK AT MOST 1048576: true; the input reads as it did. -/
def blockReadsUptoRow : OpenClaim := { program := "ytpcieookddpkhaadoor", sum := "32a80535c2d391deafc78207dcfa0baaaa302f868ed3c981a38dbe4b4a6d8a2d", func := "filespace/filespacelaw15.BlockReads", spec := "blockReads", inPlace := ["internal/abi.NoEscape"], unfollowed := true, recurses := true, named := ["filespace/hash.rounds"], apart := false, laid := [("filespace/hash.rounds", laid_filespace_hash_rounds)], narrowed := true }
def BlockReadsUptoSaid : Prop := blockReadsUptoRow.holds Tryd.pinned (OpenSpec.upto blockReadsSpec)

/-- 'filespacelaw15.BlockPuts', WHERE WHAT IT READS IS OF BULK AT MOST 1048576: true; the input reads as it did. -/
def blockPutsUptoRow : OpenClaim := { program := "ytpcieookddpkhaadoor", sum := "32a80535c2d391deafc78207dcfa0baaaa302f868ed3c981a38dbe4b4a6d8a2d", func := "filespace/filespacelaw15.BlockPuts", spec := "blockPuts", inPlace := ["internal/abi.NoEscape"], unfollowed := true, recurses := true, named := ["filespace/hash.rounds"], apart := false, laid := [("filespace/hash.rounds", laid_filespace_hash_rounds)], narrowed := true }
def BlockPutsUptoSaid : Prop := blockPutsUptoRow.holds Tryd.pinned (OpenSpec.upto blockPutsSpec)

/-- 'filespacelaw15.BlockLoads', WHERE WHAT IT READS IS OF BULK AT MOST 1048576: true; the input reads as it did. -/
def blockLoadsUptoRow : OpenClaim := { program := "ytpcieookddpkhaadoor", sum := "32a80535c2d391deafc78207dcfa0baaaa302f868ed3c981a38dbe4b4a6d8a2d", func := "filespace/filespacelaw15.BlockLoads", spec := "blockLoads", inPlace := ["internal/abi.NoEscape"], unfollowed := true, recurses := true, named := ["filespace/hash.rounds"], apart := false, laid := [("filespace/hash.rounds", laid_filespace_hash_rounds)], narrowed := true }
def BlockLoadsUptoSaid : Prop := blockLoadsUptoRow.holds Tryd.pinned (OpenSpec.upto blockLoadsSpec)

/-- 'filespacelaw15.BlockKeeps', WHERE WHAT IT READS IS OF BULK AT MOST 1048576: true; the input reads as it did. -/
def blockKeepsUptoRow : OpenClaim := { program := "ytpcieookddpkhaadoor", sum := "32a80535c2d391deafc78207dcfa0baaaa302f868ed3c981a38dbe4b4a6d8a2d", func := "filespace/filespacelaw15.BlockKeeps", spec := "blockKeeps", inPlace := ["internal/abi.NoEscape"], unfollowed := true, recurses := true, named := ["filespace/hash.rounds"], apart := false, laid := [("filespace/hash.rounds", laid_filespace_hash_rounds)], narrowed := true }
def BlockKeepsUptoSaid : Prop := blockKeepsUptoRow.holds Tryd.pinned (OpenSpec.upto blockKeepsSpec)

/-- 'filespacelaw15.BlockBack', WHERE WHAT IT READS IS OF BULK AT MOST 1048576: true; the input reads as it did. -/
def blockBackUptoRow : OpenClaim := { program := "ytpcieookddpkhaadoor", sum := "32a80535c2d391deafc78207dcfa0baaaa302f868ed3c981a38dbe4b4a6d8a2d", func := "filespace/filespacelaw15.BlockBack", spec := "blockBack", inPlace := ["internal/abi.NoEscape"], unfollowed := true, recurses := true, named := ["filespace/hash.rounds"], apart := false, laid := [("filespace/hash.rounds", laid_filespace_hash_rounds)], narrowed := true }
def BlockBackUptoSaid : Prop := blockBackUptoRow.holds Tryd.pinned (OpenSpec.upto blockBackSpec)

end Rows
end Go.Proofs.YtpcieookddpkhaaDoor
