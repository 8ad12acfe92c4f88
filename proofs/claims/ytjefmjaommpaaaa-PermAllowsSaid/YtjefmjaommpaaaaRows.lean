/-
  No cell of these rows narrows 'for every input' (looked for: loops, veiled, ifaces, maps, wideKeys, modest, calm, conditions, laid).
  DERIVED. THE GIVEN ROWS OF THIS SEAT. 6 by the template 'for every input the law returns true; each argument reads behind the call as it read before'; 0 by the template 'total and deterministic' (their statements: YtjefmjaommpaaaaTotals.lean).
  GIVEN WITH THE SEED: the statements are not yours to turn. If you find one false, say at which input.
  Laid BY PROGRAM, IN A SANDBOX (cutbox-rows.mjs): the forced cells as the released guide's own fill.sh prints them over the translation f697411e4118488f… (all of the seat's roots in one cut). By AI agents, Wed Nov 11 2026. No macro, syntax, notation, axiom, sorry.
-/
import Derived.Test.YtjefmjaommpaaaaChecked
import GoSem.Claim
import GoSem.ClaimJoined
import GoSem.ClaimMapViews
import Derived.JoinedTies
import Derived.KernelRfl
namespace Go.Proofs.Ytjefmjaommpaaaa
/- THE CELL 'sum', in the pinned program and in every row, IS THE sha256 OF THE DUMP (.gsa) THAT YtjefmjaommpaaaaProg.lean LOADS. Nothing in Lean hashes anything: it is a label: what it is worth is what the hold of that sum in a sandbox is worth. -/
noncomputable def Try.pinned : Pinned := { name := "ytjefmjaommpaaaa", sum := "f697411e4118488fd5399dfa3f0cd3ac9c9f875f455c0c6fc8aef3ed05bd2aaf", checked := Try.checked }
namespace Rows
def none {H : Type} : Left H := { results := [], args := [] }

/-- 'filespacelaw06.PermTexts': WHATEVER THE INPUT: true; the input reads as it did. -/
def permTextsSpec : ChangeSpec := { name := "permTexts", fn := fun _ => fun
  | [d1, d2] => { results := [.lit (.bool true)], args := [d1, d2] }
  | _ => none }
def permTextsRow : OpenClaim := { program := "ytjefmjaommpaaaa", sum := "f697411e4118488fd5399dfa3f0cd3ac9c9f875f455c0c6fc8aef3ed05bd2aaf", func := "filespace/filespacelaw06.PermTexts", spec := "permTexts", apart := false }
def PermTextsSaid : Prop := permTextsRow.holds Try.pinned (OpenSpec.ofChange permTextsSpec)

/-- ITS FALSE NEIGHBOUR: 'it returns false'. Refute it at one input. -/
def permTextsWrong : ChangeSpec := { name := "permTexts", fn := fun _ => fun
  | [d1, d2] => { results := [.lit (.bool false)], args := [d1, d2] }
  | _ => none }
def PermTextsWrongFalsely : Prop := permTextsRow.holds Try.pinned (OpenSpec.ofChange permTextsWrong)

/-- 'filespacelaw06.PermOpens': WHATEVER THE INPUT: true; the input reads as it did. -/
def permOpensSpec : ChangeSpec := { name := "permOpens", fn := fun _ => fun
  | [d1, d2, d3] => { results := [.lit (.bool true)], args := [d1, d2, d3] }
  | _ => none }
def permOpensRow : OpenClaim := { program := "ytjefmjaommpaaaa", sum := "f697411e4118488fd5399dfa3f0cd3ac9c9f875f455c0c6fc8aef3ed05bd2aaf", func := "filespace/filespacelaw06.PermOpens", spec := "permOpens", apart := false }
def PermOpensSaid : Prop := permOpensRow.holds Try.pinned (OpenSpec.ofChange permOpensSpec)

/-- ITS FALSE NEIGHBOUR: 'it returns false'. Refute it at one input. -/
def permOpensWrong : ChangeSpec := { name := "permOpens", fn := fun _ => fun
  | [d1, d2, d3] => { results := [.lit (.bool false)], args := [d1, d2, d3] }
  | _ => none }
def PermOpensWrongFalsely : Prop := permOpensRow.holds Try.pinned (OpenSpec.ofChange permOpensWrong)

/-- 'filespacelaw06.PermAllows': WHATEVER THE INPUT: true; the input reads as it did. -/
def permAllowsSpec : ChangeSpec := { name := "permAllows", fn := fun _ => fun
  | [d1, d2] => { results := [.lit (.bool true)], args := [d1, d2] }
  | _ => none }
def permAllowsRow : OpenClaim := { program := "ytjefmjaommpaaaa", sum := "f697411e4118488fd5399dfa3f0cd3ac9c9f875f455c0c6fc8aef3ed05bd2aaf", func := "filespace/filespacelaw06.PermAllows", spec := "permAllows", apart := false }
def PermAllowsSaid : Prop := permAllowsRow.holds Try.pinned (OpenSpec.ofChange permAllowsSpec)

/-- ITS FALSE NEIGHBOUR: 'it returns false'. Refute it at one input. -/
def permAllowsWrong : ChangeSpec := { name := "permAllows", fn := fun _ => fun
  | [d1, d2] => { results := [.lit (.bool false)], args := [d1, d2] }
  | _ => none }
def PermAllowsWrongFalsely : Prop := permAllowsRow.holds Try.pinned (OpenSpec.ofChange permAllowsWrong)

/-- 'filespacelaw06.PermBack': WHATEVER THE INPUT: true; the input reads as it did. -/
def permBackSpec : ChangeSpec := { name := "permBack", fn := fun _ => fun
  | [d1, d2] => { results := [.lit (.bool true)], args := [d1, d2] }
  | _ => none }
def permBackRow : OpenClaim := { program := "ytjefmjaommpaaaa", sum := "f697411e4118488fd5399dfa3f0cd3ac9c9f875f455c0c6fc8aef3ed05bd2aaf", func := "filespace/filespacelaw06.PermBack", spec := "permBack", apart := false }
def PermBackSaid : Prop := permBackRow.holds Try.pinned (OpenSpec.ofChange permBackSpec)

/-- ITS FALSE NEIGHBOUR: 'it returns false'. Refute it at one input. -/
def permBackWrong : ChangeSpec := { name := "permBack", fn := fun _ => fun
  | [d1, d2] => { results := [.lit (.bool false)], args := [d1, d2] }
  | _ => none }
def PermBackWrongFalsely : Prop := permBackRow.holds Try.pinned (OpenSpec.ofChange permBackWrong)

/-- 'filespacelaw06.PermGrants': WHATEVER THE INPUT: true; the input reads as it did. -/
def permGrantsSpec : ChangeSpec := { name := "permGrants", fn := fun _ => fun
  | [d1, d2, d3] => { results := [.lit (.bool true)], args := [d1, d2, d3] }
  | _ => none }
def permGrantsRow : OpenClaim := { program := "ytjefmjaommpaaaa", sum := "f697411e4118488fd5399dfa3f0cd3ac9c9f875f455c0c6fc8aef3ed05bd2aaf", func := "filespace/filespacelaw06.PermGrants", spec := "permGrants", apart := false }
def PermGrantsSaid : Prop := permGrantsRow.holds Try.pinned (OpenSpec.ofChange permGrantsSpec)

/-- ITS FALSE NEIGHBOUR: 'it returns false'. Refute it at one input. -/
def permGrantsWrong : ChangeSpec := { name := "permGrants", fn := fun _ => fun
  | [d1, d2, d3] => { results := [.lit (.bool false)], args := [d1, d2, d3] }
  | _ => none }
def PermGrantsWrongFalsely : Prop := permGrantsRow.holds Try.pinned (OpenSpec.ofChange permGrantsWrong)

/-- 'filespacelaw06.PermInherits': WHATEVER THE INPUT: true; the input reads as it did. -/
def permInheritsSpec : ChangeSpec := { name := "permInherits", fn := fun _ => fun
  | [d1, d2] => { results := [.lit (.bool true)], args := [d1, d2] }
  | _ => none }
def permInheritsRow : OpenClaim := { program := "ytjefmjaommpaaaa", sum := "f697411e4118488fd5399dfa3f0cd3ac9c9f875f455c0c6fc8aef3ed05bd2aaf", func := "filespace/filespacelaw06.PermInherits", spec := "permInherits", apart := false }
def PermInheritsSaid : Prop := permInheritsRow.holds Try.pinned (OpenSpec.ofChange permInheritsSpec)

/-- ITS FALSE NEIGHBOUR: 'it returns false'. Refute it at one input. -/
def permInheritsWrong : ChangeSpec := { name := "permInherits", fn := fun _ => fun
  | [d1, d2] => { results := [.lit (.bool false)], args := [d1, d2] }
  | _ => none }
def PermInheritsWrongFalsely : Prop := permInheritsRow.holds Try.pinned (OpenSpec.ofChange permInheritsWrong)

/- THE SECOND FORM. 'bulk': how many values and letters a reading holds, each counted each time it is reached (what is shared counts as often as it is met; a slice's spare places count too). A statement '..UptoSaid' is the law's where the arguments, and the package variables that the reading takes, are together of bulk at most 1048576: NARROWER than '..Said'. Prove '..Said' where nothing that the law and all that it calls make is longer than what came in: it says more and counts as full. Else prove '..UptoSaid'. A law counts once. -/
mutual
def uptoBulk {H : Type} : DataW H → Nat
  | .lit (.string bytes) => bytes.length + 1
  | .lit _ => 1
  | .nil => 1
  | .ptr d => uptoBulk d + 1
  | .slice elems spare => uptoBulkAll elems + uptoBulkAll spare + 1
  | .agg parts => uptoBulkAll parts + 1
  | .iface _ d => uptoBulk d + 1
  | .map entries => uptoBulkEntries entries + 1
  | .held _ => 1
def uptoBulkAll {H : Type} : List (DataW H) → Nat
  | [] => 0
  | d :: r => uptoBulk d + uptoBulkAll r
def uptoBulkEntries {H : Type} : List (Lit × DataW H) → Nat
  | [] => 0
  | x :: r => uptoBulkEntry x + uptoBulkEntries r
def uptoBulkEntry {H : Type} : Lit × DataW H → Nat
  | (.string bytes, d) => bytes.length + uptoBulk d + 1
  | (_, d) => uptoBulk d + 1
 end
def uptoSmall : (H : Type) → List (DataW H) → Bool := fun _ ds => decide (uptoBulkAll ds ≤ 1048576)
def OpenSpec.upto (s : _root_.Go.ChangeSpec) : _root_.Go.OpenSpec := { _root_.Go.OpenSpec.ofChange s with cond := some uptoSmall }

/-- 'filespacelaw06.PermTexts', WHERE WHAT IT READS IS OF BULK AT MOST 1048576: true; the input reads as it did. -/
def permTextsUptoRow : OpenClaim := { program := "ytjefmjaommpaaaa", sum := "f697411e4118488fd5399dfa3f0cd3ac9c9f875f455c0c6fc8aef3ed05bd2aaf", func := "filespace/filespacelaw06.PermTexts", spec := "permTexts", apart := false, narrowed := true }
def PermTextsUptoSaid : Prop := permTextsUptoRow.holds Try.pinned (OpenSpec.upto permTextsSpec)

/-- 'filespacelaw06.PermOpens', WHERE WHAT IT READS IS OF BULK AT MOST 1048576: true; the input reads as it did. -/
def permOpensUptoRow : OpenClaim := { program := "ytjefmjaommpaaaa", sum := "f697411e4118488fd5399dfa3f0cd3ac9c9f875f455c0c6fc8aef3ed05bd2aaf", func := "filespace/filespacelaw06.PermOpens", spec := "permOpens", apart := false, narrowed := true }
def PermOpensUptoSaid : Prop := permOpensUptoRow.holds Try.pinned (OpenSpec.upto permOpensSpec)

/-- 'filespacelaw06.PermAllows', WHERE WHAT IT READS IS OF BULK AT MOST 1048576: true; the input reads as it did. -/
def permAllowsUptoRow : OpenClaim := { program := "ytjefmjaommpaaaa", sum := "f697411e4118488fd5399dfa3f0cd3ac9c9f875f455c0c6fc8aef3ed05bd2aaf", func := "filespace/filespacelaw06.PermAllows", spec := "permAllows", apart := false, narrowed := true }
def PermAllowsUptoSaid : Prop := permAllowsUptoRow.holds Try.pinned (OpenSpec.upto permAllowsSpec)

/-- 'filespacelaw06.PermBack', WHERE WHAT IT READS IS OF BULK AT MOST 1048576: true; the input reads as it did. -/
def permBackUptoRow : OpenClaim := { program := "ytjefmjaommpaaaa", sum := "f697411e4118488fd5399dfa3f0cd3ac9c9f875f455c0c6fc8aef3ed05bd2aaf", func := "filespace/filespacelaw06.PermBack", spec := "permBack", apart := false, narrowed := true }
def PermBackUptoSaid : Prop := permBackUptoRow.holds Try.pinned (OpenSpec.upto permBackSpec)

/-- 'filespacelaw06.PermGrants', WHERE WHAT IT READS IS OF BULK AT MOST 1048576: true; the input reads as it did. -/
def permGrantsUptoRow : OpenClaim := { program := "ytjefmjaommpaaaa", sum := "f697411e4118488fd5399dfa3f0cd3ac9c9f875f455c0c6fc8aef3ed05bd2aaf", func := "filespace/filespacelaw06.PermGrants", spec := "permGrants", apart := false, narrowed := true }
def PermGrantsUptoSaid : Prop := permGrantsUptoRow.holds Try.pinned (OpenSpec.upto permGrantsSpec)

/-- 'filespacelaw06.PermInherits', WHERE WHAT IT READS IS OF BULK AT MOST 1048576: true; the input reads as it did. -/
def permInheritsUptoRow : OpenClaim := { program := "ytjefmjaommpaaaa", sum := "f697411e4118488fd5399dfa3f0cd3ac9c9f875f455c0c6fc8aef3ed05bd2aaf", func := "filespace/filespacelaw06.PermInherits", spec := "permInherits", apart := false, narrowed := true }
def PermInheritsUptoSaid : Prop := permInheritsUptoRow.holds Try.pinned (OpenSpec.upto permInheritsSpec)

end Rows
end Go.Proofs.Ytjefmjaommpaaaa
