/- The examples of the chapter, reckoned on the functions on lists. Conditions: none. -/
import Derived.Test.YtjjdaelddicokaaGreatDoorAuMath
set_option linter.unusedVariables false
namespace Go.Proofs.YtjjdaelddicokaaGreatDoor
open Au (Att Cnv)
namespace Au
def zeros : List UInt8 := List.replicate 32 0
def exKey (s : List UInt8) : List Att := [⟨[117, 115, 101, 114], [97, 110, 110], false⟩, ⟨[33, 115, 101, 99, 114, 101, 116], s, false⟩]
def exPw : List UInt8 := [112, 119]
def exOther : List UInt8 := [111, 116, 104, 101, 114]
def exC : Cnv := ⟨0, sPlain, 1, 1, 0, exKey exPw, zeros, [], [], 0⟩
def exS : Cnv := ⟨0, sPlain, 2, 2, 0, exKey exPw, zeros, [], [], 0⟩
def exW : Cnv := ⟨0, sPlain, 2, 2, 0, exKey exOther, zeros, [], [], 0⟩
def exA : Cnv := ⟨0, sPlain, 1, 3, 2, exKey exPw, zeros, [], [97, 110, 110], 0⟩
def exB : Cnv := ⟨0, sPlain, 2, 3, 2, exKey exPw, zeros, [], [97, 110, 110], 0⟩
def exX : Cnv := ⟨0, sPlain, 2, 4, 0, exKey exOther, zeros, [], [], 28⟩
def exC1 : Cnv := ⟨0, sPlain, 1, 2, 1, exKey exPw, zeros, [], [], 0⟩
theorem ex_c : start sPlain 1 (exKey exPw) zeros = (exC, 0) := by decide +kernel
theorem ex_s : start sPlain 2 (exKey exPw) zeros = (exS, 0) := by decide +kernel
theorem ex_w : start sPlain 2 (exKey exOther) zeros = (exW, 0) := by decide +kernel
theorem ex_read : read exC = (exC1, [3, 0, 97, 110, 110, 2, 0, 112, 119], 0) := by decide +kernel
theorem ex_run : run 16 0 exC exS = (exA, exB, 2) := by decide +kernel
theorem ex_done : done exA = ([97, 110, 110], true) ∧ done exB = ([97, 110, 110], true) := by decide +kernel
theorem ex_run2 : run 16 0 exC exW = (exC1, exX, 1) := by decide +kernel
theorem ex_end : read exX = (exX, [], 53) ∧ done exX = ([], false) := by decide +kernel
end Au
end Go.Proofs.YtjjdaelddicokaaGreatDoor
