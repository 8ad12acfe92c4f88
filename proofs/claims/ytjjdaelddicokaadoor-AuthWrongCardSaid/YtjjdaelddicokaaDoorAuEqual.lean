/- What the law's equal returns. Conditions: texts of at most 1000. -/
import Derived.Test.YtjjdaelddicokaaDoorAuTalk
import Derived.Test.YtjjdaelddicokaaDoorRefMac
set_option linter.unusedVariables false
set_option linter.unusedSimpArgs false
namespace Go.Proofs.YtjjdaelddicokaaDoor
open Go.RowKit
open Au (Att Cnv)
namespace Au
/-- A message that is computed with two secrets is the same. -/
def equal (proto a b cn sn : List UInt8) : Bool :=
  if proto = sChal then decide (Sha.mac a sn = Sha.mac b sn) else decide (proto = sMutual) && decide (Sha.mac a (sServer ++ cn ++ sn) = Sha.mac b (sServer ++ cn ++ sn))
end Au
set_option maxRecDepth 20000 in
set_option maxHeartbeats 4000000 in
theorem equal_any (proto a b cn sn : List UInt8) (w : World) (ha : a.length ≤ 1000) (hb : b.length ≤ 1000) (hcn : cn.length ≤ 1000) (hsn : sn.length ≤ 1000) :
    Calls Tryd.prog 16 #[.string (T proto), .string (T a), .string (T b), .string (T cn), .string (T sn)] w fun e w' => e = .returned (.bool (Au.equal proto a b cn sn)) ∧ Below w.heap.size w w' := by
  by_cases h1 : proto = Au.sChal
  · have e1 : (proto == [99, 104, 97, 108]) = true := seq_yes h1
    have HM := Lib.hid (fun (k : List UInt8) (hk : k.length ≤ 1000) (W : World) => rmac_T k sn W (by omega) (by omega))
    have HR := Lib.hid (show Au.equal proto a b cn sn = decide (Sha.mac a sn = Sha.mac b sn) from by unfold Au.equal; rw [if_pos h1])
    have HMA := Lib.hid (fun W => HM.out a ha W)
    have HMB := Lib.hid (fun W => HM.out b hb W)
    clear HM h1
    generalize Sha.mac a sn = M1 at *
    generalize Sha.mac b sn = M2 at *
    by_cases hm : M1 = M2
    · have HF := Lib.hid (show Au.equal proto a b cn sn = true from by rw [HR.out, decide_eq_true hm])
      have e2 := seq_yes hm
      clear hm HR
      go_enter Tryd.func16, Tryd.ntmps16
      go_wp2_with fail
      (refine (HMA.out _).mono ?_); rintro e w1 ⟨rfl, b1⟩
      have HB1 := Lib.hid b1
      clear b1
      go_wp2_with fail
      (refine (HMB.out _).mono ?_); rintro e w2 ⟨rfl, b2'⟩
      have HB2 := Lib.hid (bnext HB1.out b2')
      clear b2'
      go_wp2_with fail
      go_ret
      exact ⟨by rw [HF.out]; rfl, HB2.out⟩
    · have HF := Lib.hid (show Au.equal proto a b cn sn = false from by rw [HR.out, decide_eq_false hm])
      have e2 := seq_no hm
      clear hm HR
      go_enter Tryd.func16, Tryd.ntmps16
      go_wp2_with fail
      (refine (HMA.out _).mono ?_); rintro e w1 ⟨rfl, b1⟩
      have HB1 := Lib.hid b1
      clear b1
      go_wp2_with fail
      (refine (HMB.out _).mono ?_); rintro e w2 ⟨rfl, b2'⟩
      have HB2 := Lib.hid (bnext HB1.out b2')
      clear b2'
      go_wp2_with fail
      go_ret
      exact ⟨by rw [HF.out]; rfl, HB2.out⟩
  have e1 : (proto == [99, 104, 97, 108]) = false := seq_no h1
  by_cases h2 : proto = Au.sMutual
  · have e3 : (proto == [109, 117, 116, 117, 97, 108]) = true := seq_yes h2
    have HM := Lib.hid (fun (k : List UInt8) (hk : k.length ≤ 1000) (W : World) => rmac_T k ([115, 101, 114, 118, 101, 114] ++ cn ++ sn) W (by omega) (by rw [List.length_append, List.length_append]; simp; omega))
    have HR := Lib.hid (show Au.equal proto a b cn sn = decide (Sha.mac a ([115, 101, 114, 118, 101, 114] ++ cn ++ sn) = Sha.mac b ([115, 101, 114, 118, 101, 114] ++ cn ++ sn)) from by unfold Au.equal; rw [if_neg h1, decide_eq_true h2, Bool.true_and]; rfl)
    have HMA := Lib.hid (fun W => HM.out a ha W)
    have HMB := Lib.hid (fun W => HM.out b hb W)
    have b2 : 6 + cn.length ≤ 9223372036854775807 := by omega
    have b3 : 6 + cn.length + sn.length ≤ 9223372036854775807 := by omega
    clear HM h1 h2
    generalize Sha.mac a ([115, 101, 114, 118, 101, 114] ++ cn ++ sn) = M1 at *
    generalize Sha.mac b ([115, 101, 114, 118, 101, 114] ++ cn ++ sn) = M2 at *
    by_cases hm : M1 = M2
    · have HF := Lib.hid (show Au.equal proto a b cn sn = true from by rw [HR.out, decide_eq_true hm])
      have e2 := seq_yes hm
      clear hm HR
      go_enter Tryd.func16, Tryd.ntmps16
      go_wp2_with fail
      try simp only [T_append]
      (refine (HMA.out _).mono ?_); rintro e w1 ⟨rfl, b1⟩
      have HB1 := Lib.hid b1
      clear b1
      go_wp2_with fail
      try simp only [T_append]
      (refine (HMB.out _).mono ?_); rintro e w2 ⟨rfl, b2'⟩
      have HB2 := Lib.hid (bnext HB1.out b2')
      clear b2'
      go_wp2_with fail
      go_ret
      exact ⟨by rw [HF.out]; rfl, HB2.out⟩
    · have HF := Lib.hid (show Au.equal proto a b cn sn = false from by rw [HR.out, decide_eq_false hm])
      have e2 := seq_no hm
      clear hm HR
      go_enter Tryd.func16, Tryd.ntmps16
      go_wp2_with fail
      try simp only [T_append]
      (refine (HMA.out _).mono ?_); rintro e w1 ⟨rfl, b1⟩
      have HB1 := Lib.hid b1
      clear b1
      go_wp2_with fail
      try simp only [T_append]
      (refine (HMB.out _).mono ?_); rintro e w2 ⟨rfl, b2'⟩
      have HB2 := Lib.hid (bnext HB1.out b2')
      clear b2'
      go_wp2_with fail
      go_ret
      exact ⟨by rw [HF.out]; rfl, HB2.out⟩
  · have e3 : (proto == [109, 117, 116, 117, 97, 108]) = false := seq_no h2
    have HF := Lib.hid (show Au.equal proto a b cn sn = false from by unfold Au.equal; rw [if_neg h1, decide_eq_false h2, Bool.false_and])
    clear h1 h2
    go_enter Tryd.func16, Tryd.ntmps16
    go_wp2_with fail
    go_ret
    exact ⟨by rw [HF.out]; rfl, Below.refl _ _⟩
end Go.Proofs.YtjjdaelddicokaaDoor
