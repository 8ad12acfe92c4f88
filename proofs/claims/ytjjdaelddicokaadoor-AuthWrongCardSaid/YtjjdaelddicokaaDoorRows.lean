/-
  NARROWER THAN 'FOR EVERY INPUT', by the rows' own cells (each row's printed sentence says how): AuthHonest: laid · AuthWrong: laid · AuthOnly: laid · AuthKeys: laid · AuthStarts: laid · AuthRight: laid.
  DERIVED. THE GIVEN ROWS OF THIS SEAT. 6 by the template 'for every input the law returns true; each argument reads behind the call as it read before'; 0 by the template 'total and deterministic' (their statements: YtjjdaelddicokaaDoorTotals.lean).
  GIVEN WITH THE SEED: the statements are not yours to turn. If you find one false, say at which input.
  Laid BY PROGRAM, IN A SANDBOX (cutbox-rows.mjs): the forced cells as the released guide's own fill.sh prints them over the translation 0141ea29c0db00ec… (all of the seat's roots in one cut). By AI agents, Wed Nov 11 2026. No macro, syntax, notation, axiom, sorry.
-/
import Derived.Test.YtjjdaelddicokaaDoorChecked
import GoSem.Claim
import GoSem.ClaimJoined
import GoSem.ClaimMapViews
import Derived.JoinedTies
import Derived.KernelRfl
namespace Go.Proofs.YtjjdaelddicokaaDoor
/- THE CELL 'sum', in the pinned program and in every row, IS THE sha256 OF THE DUMP (.gsa) THAT YtjjdaelddicokaaDoorProg.lean LOADS. Nothing in Lean hashes anything: it is a label: what it is worth is what the hold of that sum in a sandbox is worth. -/
noncomputable def Tryd.pinned : Pinned := { name := "ytjjdaelddicokaadoor", sum := "0141ea29c0db00ec5a82aa00fd088e3691fd1294b4b539f6e25970cb507ceb07", checked := Tryd.checked }
namespace Rows
def none {H : Type} : Left H := { results := [], args := [] }

/- WHAT THE LISTED PACKAGE-LEVEL VARIABLES READ AS WHEN THE CALL BEGINS. Each datum BY PROGRAM (the guide's laid-datum.mjs) off the statement by which the dump's own 'gosem.cut.vars' lays the variable. In a bare row this is a premise. The card (YtjjdaelddicokaaDoorCards.lean) ties it to the program's text. -/
def laid_filespace_hash_rounds {H : Type} : DataW H := .agg [.lit (.int .u32 1116352408), .lit (.int .u32 1899447441), .lit (.int .u32 3049323471), .lit (.int .u32 3921009573), .lit (.int .u32 961987163), .lit (.int .u32 1508970993), .lit (.int .u32 2453635748), .lit (.int .u32 2870763221), .lit (.int .u32 3624381080), .lit (.int .u32 310598401), .lit (.int .u32 607225278), .lit (.int .u32 1426881987), .lit (.int .u32 1925078388), .lit (.int .u32 2162078206), .lit (.int .u32 2614888103), .lit (.int .u32 3248222580), .lit (.int .u32 3835390401), .lit (.int .u32 4022224774), .lit (.int .u32 264347078), .lit (.int .u32 604807628), .lit (.int .u32 770255983), .lit (.int .u32 1249150122), .lit (.int .u32 1555081692), .lit (.int .u32 1996064986), .lit (.int .u32 2554220882), .lit (.int .u32 2821834349), .lit (.int .u32 2952996808), .lit (.int .u32 3210313671), .lit (.int .u32 3336571891), .lit (.int .u32 3584528711), .lit (.int .u32 113926993), .lit (.int .u32 338241895), .lit (.int .u32 666307205), .lit (.int .u32 773529912), .lit (.int .u32 1294757372), .lit (.int .u32 1396182291), .lit (.int .u32 1695183700), .lit (.int .u32 1986661051), .lit (.int .u32 2177026350), .lit (.int .u32 2456956037), .lit (.int .u32 2730485921), .lit (.int .u32 2820302411), .lit (.int .u32 3259730800), .lit (.int .u32 3345764771), .lit (.int .u32 3516065817), .lit (.int .u32 3600352804), .lit (.int .u32 4094571909), .lit (.int .u32 275423344), .lit (.int .u32 430227734), .lit (.int .u32 506948616), .lit (.int .u32 659060556), .lit (.int .u32 883997877), .lit (.int .u32 958139571), .lit (.int .u32 1322822218), .lit (.int .u32 1537002063), .lit (.int .u32 1747873779), .lit (.int .u32 1955562222), .lit (.int .u32 2024104815), .lit (.int .u32 2227730452), .lit (.int .u32 2361852424), .lit (.int .u32 2428436474), .lit (.int .u32 2756734187), .lit (.int .u32 3204031479), .lit (.int .u32 3329325298)]

/-- 'filespacelaw25.AuthHonest': WHATEVER THE INPUT: true; the input reads as it did. -/
def authHonestSpec : ChangeSpec := { name := "authHonest", fn := fun _ => fun
  | [d1, d2, d3, d4, d5] => { results := [.lit (.bool true)], args := [d1, d2, d3, d4, d5] }
  | _ => none }
def authHonestRow : OpenClaim := { program := "ytjjdaelddicokaadoor", sum := "0141ea29c0db00ec5a82aa00fd088e3691fd1294b4b539f6e25970cb507ceb07", func := "filespace/filespacelaw25.AuthHonest", spec := "authHonest", inPlace := ["internal/bytealg.IndexByteString", "internal/abi.NoEscape"], unfollowed := true, recurses := true, named := ["filespace/hash.rounds"], apart := false, laid := [("filespace/hash.rounds", laid_filespace_hash_rounds)] }
def AuthHonestSaid : Prop := authHonestRow.holds Tryd.pinned (OpenSpec.ofChange authHonestSpec)

/-- ITS FALSE NEIGHBOUR: 'it returns false'. Refute it at one input. -/
def authHonestWrong : ChangeSpec := { name := "authHonest", fn := fun _ => fun
  | [d1, d2, d3, d4, d5] => { results := [.lit (.bool false)], args := [d1, d2, d3, d4, d5] }
  | _ => none }
def AuthHonestWrongFalsely : Prop := authHonestRow.holds Tryd.pinned (OpenSpec.ofChange authHonestWrong)

/-- 'filespacelaw25.AuthWrong': WHATEVER THE INPUT: true; the input reads as it did. -/
def authWrongSpec : ChangeSpec := { name := "authWrong", fn := fun _ => fun
  | [d1, d2, d3, d4, d5] => { results := [.lit (.bool true)], args := [d1, d2, d3, d4, d5] }
  | _ => none }
def authWrongRow : OpenClaim := { program := "ytjjdaelddicokaadoor", sum := "0141ea29c0db00ec5a82aa00fd088e3691fd1294b4b539f6e25970cb507ceb07", func := "filespace/filespacelaw25.AuthWrong", spec := "authWrong", inPlace := ["internal/bytealg.IndexByteString", "internal/abi.NoEscape"], unfollowed := true, recurses := true, named := ["filespace/hash.rounds"], apart := false, laid := [("filespace/hash.rounds", laid_filespace_hash_rounds)] }
def AuthWrongSaid : Prop := authWrongRow.holds Tryd.pinned (OpenSpec.ofChange authWrongSpec)

/-- ITS FALSE NEIGHBOUR: 'it returns false'. Refute it at one input. -/
def authWrongWrong : ChangeSpec := { name := "authWrong", fn := fun _ => fun
  | [d1, d2, d3, d4, d5] => { results := [.lit (.bool false)], args := [d1, d2, d3, d4, d5] }
  | _ => none }
def AuthWrongWrongFalsely : Prop := authWrongRow.holds Tryd.pinned (OpenSpec.ofChange authWrongWrong)

/-- 'filespacelaw25.AuthOnly': WHATEVER THE INPUT: true; the input reads as it did. -/
def authOnlySpec : ChangeSpec := { name := "authOnly", fn := fun _ => fun
  | [d1, d2, d3] => { results := [.lit (.bool true)], args := [d1, d2, d3] }
  | _ => none }
def authOnlyRow : OpenClaim := { program := "ytjjdaelddicokaadoor", sum := "0141ea29c0db00ec5a82aa00fd088e3691fd1294b4b539f6e25970cb507ceb07", func := "filespace/filespacelaw25.AuthOnly", spec := "authOnly", inPlace := ["internal/bytealg.IndexByteString", "internal/abi.NoEscape"], unfollowed := true, recurses := true, named := ["filespace/hash.rounds"], apart := false, laid := [("filespace/hash.rounds", laid_filespace_hash_rounds)] }
def AuthOnlySaid : Prop := authOnlyRow.holds Tryd.pinned (OpenSpec.ofChange authOnlySpec)

/-- ITS FALSE NEIGHBOUR: 'it returns false'. Refute it at one input. -/
def authOnlyWrong : ChangeSpec := { name := "authOnly", fn := fun _ => fun
  | [d1, d2, d3] => { results := [.lit (.bool false)], args := [d1, d2, d3] }
  | _ => none }
def AuthOnlyWrongFalsely : Prop := authOnlyRow.holds Tryd.pinned (OpenSpec.ofChange authOnlyWrong)

/-- 'filespacelaw25.AuthKeys': WHATEVER THE INPUT: true; the input reads as it did. -/
def authKeysSpec : ChangeSpec := { name := "authKeys", fn := fun _ => fun
  | [d] => { results := [.lit (.bool true)], args := [d] }
  | _ => none }
def authKeysRow : OpenClaim := { program := "ytjjdaelddicokaadoor", sum := "0141ea29c0db00ec5a82aa00fd088e3691fd1294b4b539f6e25970cb507ceb07", func := "filespace/filespacelaw25.AuthKeys", spec := "authKeys", inPlace := ["internal/bytealg.IndexByteString", "internal/abi.NoEscape"], unfollowed := true, recurses := true, named := ["filespace/hash.rounds"], apart := false, laid := [("filespace/hash.rounds", laid_filespace_hash_rounds)] }
def AuthKeysSaid : Prop := authKeysRow.holds Tryd.pinned (OpenSpec.ofChange authKeysSpec)

/-- ITS FALSE NEIGHBOUR: 'it returns false'. Refute it at one input. -/
def authKeysWrong : ChangeSpec := { name := "authKeys", fn := fun _ => fun
  | [d] => { results := [.lit (.bool false)], args := [d] }
  | _ => none }
def AuthKeysWrongFalsely : Prop := authKeysRow.holds Tryd.pinned (OpenSpec.ofChange authKeysWrong)

/-- 'filespacelaw25.AuthStarts': WHATEVER THE INPUT: true; the input reads as it did. -/
def authStartsSpec : ChangeSpec := { name := "authStarts", fn := fun _ => fun
  | [d1, d2, d3, d4] => { results := [.lit (.bool true)], args := [d1, d2, d3, d4] }
  | _ => none }
def authStartsRow : OpenClaim := { program := "ytjjdaelddicokaadoor", sum := "0141ea29c0db00ec5a82aa00fd088e3691fd1294b4b539f6e25970cb507ceb07", func := "filespace/filespacelaw25.AuthStarts", spec := "authStarts", inPlace := ["internal/bytealg.IndexByteString", "internal/abi.NoEscape"], unfollowed := true, recurses := true, named := ["filespace/hash.rounds"], apart := false, laid := [("filespace/hash.rounds", laid_filespace_hash_rounds)] }
def AuthStartsSaid : Prop := authStartsRow.holds Tryd.pinned (OpenSpec.ofChange authStartsSpec)

/-- ITS FALSE NEIGHBOUR: 'it returns false'. Refute it at one input. -/
def authStartsWrong : ChangeSpec := { name := "authStarts", fn := fun _ => fun
  | [d1, d2, d3, d4] => { results := [.lit (.bool false)], args := [d1, d2, d3, d4] }
  | _ => none }
def AuthStartsWrongFalsely : Prop := authStartsRow.holds Tryd.pinned (OpenSpec.ofChange authStartsWrong)

/-- 'filespacelaw25.AuthRight': WHATEVER THE INPUT: true; the input reads as it did. -/
def authRightSpec : ChangeSpec := { name := "authRight", fn := fun _ => fun
  | [d] => { results := [.lit (.bool true)], args := [d] }
  | _ => none }
def authRightRow : OpenClaim := { program := "ytjjdaelddicokaadoor", sum := "0141ea29c0db00ec5a82aa00fd088e3691fd1294b4b539f6e25970cb507ceb07", func := "filespace/filespacelaw25.AuthRight", spec := "authRight", inPlace := ["internal/bytealg.IndexByteString", "internal/abi.NoEscape"], unfollowed := true, recurses := true, named := ["filespace/hash.rounds"], apart := false, laid := [("filespace/hash.rounds", laid_filespace_hash_rounds)] }
def AuthRightSaid : Prop := authRightRow.holds Tryd.pinned (OpenSpec.ofChange authRightSpec)

/-- ITS FALSE NEIGHBOUR: 'it returns false'. Refute it at one input. -/
def authRightWrong : ChangeSpec := { name := "authRight", fn := fun _ => fun
  | [d] => { results := [.lit (.bool false)], args := [d] }
  | _ => none }
def AuthRightWrongFalsely : Prop := authRightRow.holds Tryd.pinned (OpenSpec.ofChange authRightWrong)

/- THE SECOND FORM. 'bulk': how many values and letters a reading holds, each counted each time it is reached (what is shared counts as often as it is met; a slice's spare places count too). A statement '..UptoSaid' is the law's where the arguments, and the package variables that the reading takes, are together of bulk at most 1048576: NARROWER than '..Said'. Prove '..Said' where nothing that the law and all that it calls make is longer than what came in: it says more and counts as full. Else prove '..UptoSaid'. A law counts once. -/
mutual
def uptoBulk {H : Type} : DataW H → Nat
  | .lit (.string bytes) => bytes.length + 1
  | .lit _ => 1
  | .nil => 1
  | .ptr d => uptoBulk d + 1
  | .slice elems spare => uptoBulkAll elems + uptoBulkAll spare + 1
  | .agg parts => uptoBulkAll parts + 1
  | .iface _ d => uptoBulk d + 1
  | .map entries => uptoBulkEntries entries + 1
  | .held _ => 1
def uptoBulkAll {H : Type} : List (DataW H) → Nat
  | [] => 0
  | d :: r => uptoBulk d + uptoBulkAll r
def uptoBulkEntries {H : Type} : List (Lit × DataW H) → Nat
  | [] => 0
  | x :: r => uptoBulkEntry x + uptoBulkEntries r
def uptoBulkEntry {H : Type} : Lit × DataW H → Nat
  | (.string bytes, d) => bytes.length + uptoBulk d + 1
  | (_, d) => uptoBulk d + 1
 end
def uptoSmall : (H : Type) → List (DataW H) → Bool := fun _ ds => decide (uptoBulkAll ds ≤ 1048576)
def OpenSpec.upto (s : _root_.Go.ChangeSpec) : _root_.Go.OpenSpec := { _root_.Go.OpenSpec.ofChange s with cond := some uptoSmall }

/-- 'filespacelaw25.AuthHonest', WHERE WHAT IT READS IS OF BULK AT MOST 1048576: true; the input reads as it did. -/
def authHonestUptoRow : OpenClaim := { program := "ytjjdaelddicokaadoor", sum := "0141ea29c0db00ec5a82aa00fd088e3691fd1294b4b539f6e25970cb507ceb07", func := "filespace/filespacelaw25.AuthHonest", spec := "authHonest", inPlace := ["internal/bytealg.IndexByteString", "internal/abi.NoEscape"], unfollowed := true, recurses := true, named := ["filespace/hash.rounds"], apart := false, laid := [("filespace/hash.rounds", laid_filespace_hash_rounds)], narrowed := true }
def AuthHonestUptoSaid : Prop := authHonestUptoRow.holds Tryd.pinned (OpenSpec.upto authHonestSpec)

/-- 'filespacelaw25.AuthWrong', WHERE WHAT IT READS IS OF BULK AT MOST 1048576: true; the input reads as it did. -/
def authWrongUptoRow : OpenClaim := { program := "ytjjdaelddicokaadoor", sum := "0141ea29c0db00ec5a82aa00fd088e3691fd1294b4b539f6e25970cb507ceb07", func := "filespace/filespacelaw25.AuthWrong", spec := "authWrong", inPlace := ["internal/bytealg.IndexByteString", "internal/abi.NoEscape"], unfollowed := true, recurses := true, named := ["filespace/hash.rounds"], apart := false, laid := [("filespace/hash.rounds", laid_filespace_hash_rounds)], narrowed := true }
def AuthWrongUptoSaid : Prop := authWrongUptoRow.holds Tryd.pinned (OpenSpec.upto authWrongSpec)

/-- 'filespacelaw25.AuthOnly', WHERE WHAT IT READS IS OF BULK AT MOST 1048576: true; the input reads as it did. -/
def authOnlyUptoRow : OpenClaim := { program := "ytjjdaelddicokaadoor", sum := "0141ea29c0db00ec5a82aa00fd088e3691fd1294b4b539f6e25970cb507ceb07", func := "filespace/filespacelaw25.AuthOnly", spec := "authOnly", inPlace := ["internal/bytealg.IndexByteString", "internal/abi.NoEscape"], unfollowed := true, recurses := true, named := ["filespace/hash.rounds"], apart := false, laid := [("filespace/hash.rounds", laid_filespace_hash_rounds)], narrowed := true }
def AuthOnlyUptoSaid : Prop := authOnlyUptoRow.holds Tryd.pinned (OpenSpec.upto authOnlySpec)

/-- 'filespacelaw25.AuthKeys', WHERE WHAT IT READS IS OF BULK AT MOST 1048576: true; the input reads as it did. -/
def authKeysUptoRow : OpenClaim := { program := "ytjjdaelddicokaadoor", sum := "0141ea29c0db00ec5a82aa00fd088e3691fd1294b4b539f6e25970cb507ceb07", func := "filespace/filespacelaw25.AuthKeys", spec := "authKeys", inPlace := ["internal/bytealg.IndexByteString", "internal/abi.NoEscape"], unfollowed := true, recurses := true, named := ["filespace/hash.rounds"], apart := false, laid := [("filespace/hash.rounds", laid_filespace_hash_rounds)], narrowed := true }
def AuthKeysUptoSaid : Prop := authKeysUptoRow.holds Tryd.pinned (OpenSpec.upto authKeysSpec)

/-- 'filespacelaw25.AuthStarts', WHERE WHAT IT READS IS OF BULK AT MOST 1048576: true; the input reads as it did. -/
def authStartsUptoRow : OpenClaim := { program := "ytjjdaelddicokaadoor", sum := "0141ea29c0db00ec5a82aa00fd088e3691fd1294b4b539f6e25970cb507ceb07", func := "filespace/filespacelaw25.AuthStarts", spec := "authStarts", inPlace := ["internal/bytealg.IndexByteString", "internal/abi.NoEscape"], unfollowed := true, recurses := true, named := ["filespace/hash.rounds"], apart := false, laid := [("filespace/hash.rounds", laid_filespace_hash_rounds)], narrowed := true }
def AuthStartsUptoSaid : Prop := authStartsUptoRow.holds Tryd.pinned (OpenSpec.upto authStartsSpec)

/-- 'filespacelaw25.AuthRight', WHERE WHAT IT READS IS OF BULK AT MOST 1048576: true; the input reads as it did. -/
def authRightUptoRow : OpenClaim := { program := "ytjjdaelddicokaadoor", sum := "0141ea29c0db00ec5a82aa00fd088e3691fd1294b4b539f6e25970cb507ceb07", func := "filespace/filespacelaw25.AuthRight", spec := "authRight", inPlace := ["internal/bytealg.IndexByteString", "internal/abi.NoEscape"], unfollowed := true, recurses := true, named := ["filespace/hash.rounds"], apart := false, laid := [("filespace/hash.rounds", laid_filespace_hash_rounds)], narrowed := true }
def AuthRightUptoSaid : Prop := authRightUptoRow.holds Tryd.pinned (OpenSpec.upto authRightSpec)

end Rows
end Go.Proofs.YtjjdaelddicokaaDoor
