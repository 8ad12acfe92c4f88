/- What the reference of layer 25 returns: Messages, first, userOf, secretOf, keyError, phase, knows. Conditions: keys and texts of at most 1000. -/
import Derived.Test.YtjjdaelddicokaaGreatDoorAuSet
import Derived.Deep.CutBlock
set_option linter.unusedVariables false
set_option linter.unusedSimpArgs false
namespace Go.Proofs.YtjjdaelddicokaaGreatDoor
open Go.RowKit
open Au (Att Cnv)
namespace Au
/-- The reference's number of messages, phase, knowledge of the nonce. -/
def rlen (p : List UInt8) : Int := if p = sChal ∨ p = sMutual then 3 else if p = sPlain then 2 else 0
def rphase (c : Cnv) : Int := if c.step = rlen c.proto then 3 else if sends c.proto c.role c.step = true then 1 else 2
def rknows (c : Cnv) : Bool := if c.proto = sChal then decide (c.role = 1) && decide (0 < c.step) else if c.proto = sMutual ∧ c.role = 2 then decide (0 < c.step) else decide (c.proto = sMutual) && decide (1 < c.step)
end Au
theorem rmsgs_any (p : List UInt8) (w : World) :
    Calls Tryz.prog 19 #[.string (T p)] w fun e w' => e = .returned (.int .i64 (Au.rlen p)) ∧ w = w' := by
  by_cases h1 : p = Au.sChal
  · have HF := Lib.hid (show Au.rlen p = 3 from by unfold Au.rlen; rw [if_pos (.inl h1)])
    have e1 : (p == [99, 104, 97, 108]) = true := seq_yes h1
    clear h1
    go_enter Tryz.func19, Tryz.ntmps19
    go_wp2_with fail
    go_ret
    exact ⟨by rw [HF.out]; rfl, rfl⟩
  have e1 : (p == [99, 104, 97, 108]) = false := seq_no h1
  by_cases h2 : p = Au.sMutual
  · have HF := Lib.hid (show Au.rlen p = 3 from by unfold Au.rlen; rw [if_pos (.inr h2)])
    have e2 : (p == [109, 117, 116, 117, 97, 108]) = true := seq_yes h2
    clear h1 h2
    go_enter Tryz.func19, Tryz.ntmps19
    go_wp2_with fail
    go_ret
    exact ⟨by rw [HF.out]; rfl, rfl⟩
  have e2 : (p == [109, 117, 116, 117, 97, 108]) = false := seq_no h2
  by_cases h3 : p = Au.sPlain
  · have HF := Lib.hid (show Au.rlen p = 2 from by unfold Au.rlen; rw [if_neg (by simp [h1, h2]), if_pos h3])
    have e3 : (p == [112, 108, 97, 105, 110]) = true := seq_yes h3
    clear h1 h2 h3
    go_enter Tryz.func19, Tryz.ntmps19
    go_wp2_with fail
    go_ret
    exact ⟨by rw [HF.out]; rfl, rfl⟩
  · have HF := Lib.hid (show Au.rlen p = 0 from by unfold Au.rlen; rw [if_neg (by simp [h1, h2]), if_neg h3])
    have e3 : (p == [112, 108, 97, 105, 110]) = false := seq_no h3
    clear h1 h2 h3
    go_enter Tryz.func19, Tryz.ntmps19
    go_wp2_with fail
    go_ret
    exact ⟨by rw [HF.out]; rfl, rfl⟩
theorem rfirst_any (p : List UInt8) (w : World) :
    Calls Tryz.prog 41 #[.string (T p)] w fun e w' => e = .returned (.int .i64 (Au.first p)) ∧ w = w' := by
  by_cases h1 : p = Au.sChal
  · have HF := Lib.hid (show Au.first p = 2 from by unfold Au.first; rw [if_pos h1])
    have e1 : (p == [99, 104, 97, 108]) = true := seq_yes h1
    clear h1
    go_enter Tryz.func41, Tryz.ntmps41
    go_wp2_with fail
    go_ret
    exact ⟨by rw [HF.out]; rfl, rfl⟩
  · have HF := Lib.hid (show Au.first p = 1 from by unfold Au.first; rw [if_neg h1])
    have e1 : (p == [99, 104, 97, 108]) = false := seq_no h1
    clear h1
    go_enter Tryz.func41, Tryz.ntmps41
    go_wp2_with fail
    go_ret
    exact ⟨by rw [HF.out]; rfl, rfl⟩
theorem ruser_any (v : Value) (l : List Att) (w : World) (hv : Atts w v l) (hl : l.length ≤ 1000000) :
    Calls Tryz.prog 23 #[v] w fun e w' => e = .returned (.string (T (Au.user l))) ∧ Below w.heap.size w w' := by
  have HFD := Lib.hid (show Calls Tryz.prog 42 #[v, .string (T [117, 115, 101, 114])] w fun e w' => e = .returned (.tuple #[.string (T (Au.user l)), .bool (Au.has [117, 115, 101, 114] l)]) ∧ Below w.heap.size w w' from rafind_any v l [117, 115, 101, 114] w hv hl)
  obtain ⟨ao, m, cp, rfl⟩ := hv.form
  clear hv
  go_enter Tryz.func23, Tryz.ntmps23
  go_wp2_with fail
  (with_reducible refine HFD.out.mono ?_); rintro e w1 ⟨rfl, b1⟩
  go_wp2_with fail
  go_ret
  exact ⟨rfl, b1⟩
theorem rsec_any (v : Value) (l : List Att) (w : World) (hv : Atts w v l) (hl : l.length ≤ 1000000) :
    Calls Tryz.prog 40 #[v] w fun e w' => e = .returned (.string (T (Au.sec l))) ∧ Below w.heap.size w w' := by
  have HFD := Lib.hid (show Calls Tryz.prog 42 #[v, .string (T [33, 115, 101, 99, 114, 101, 116])] w fun e w' => e = .returned (.tuple #[.string (T (Au.sec l)), .bool (Au.has [33, 115, 101, 99, 114, 101, 116] l)]) ∧ Below w.heap.size w w' from rafind_any v l [33, 115, 101, 99, 114, 101, 116] w hv hl)
  obtain ⟨ao, m, cp, rfl⟩ := hv.form
  clear hv
  go_enter Tryz.func40, Tryz.ntmps40
  go_wp2_with fail
  (with_reducible refine HFD.out.mono ?_); rintro e w1 ⟨rfl, b1⟩
  go_wp2_with fail
  go_ret
  exact ⟨rfl, b1⟩
set_option maxHeartbeats 2000000 in
theorem rkeyerr_any (v : Value) (l : List Att) (w : World) (hv : Atts w v l) (hl : l.length ≤ 1000000) (hs : Fits l) :
    Calls Tryz.prog 20 #[v] w fun e w' => e = .returned (.int .i64 (Au.keyE l)) ∧ Below w.heap.size w w' := by
  have HCK := Lib.hid (rchk_any v l w hv hl hs)
  have HU := Lib.hid (fun (W : World) (hb : Below w.heap.size w W) => ruser_any v l W (hv.below hb) hl)
  have HS := Lib.hid (fun (W : World) (hb : Below w.heap.size w W) => rsec_any v l W (hv.below hb) hl)
  have HK := Lib.hid (show Au.keyOk l = (decide (1 ≤ (Au.user l).length) && decide ((Au.user l).length ≤ 32) && decide (1 ≤ (Au.sec l).length) && decide ((Au.sec l).length ≤ 64)) from rfl)
  have HE := Lib.hid (show Au.keyE l = if Au.check l = 0 then (if Au.keyOk l = true then 0 else 52) else Au.check l from rfl)
  obtain ⟨ao, m, cp, rfl⟩ := hv.form
  clear hv hs
  generalize Au.check l = E at *
  generalize Au.keyOk l = b3 at *
  generalize Au.user l = u at *
  generalize Au.sec l = s at *
  by_cases h0 : E = 0
  rotate_left
  · have HF := Lib.hid (show Au.keyE l = E from by rw [HE.out, if_neg h0])
    have e1 : (E != 0) = true := by simpa using h0
    clear h0
    go_enter Tryz.func20, Tryz.ntmps20
    go_wp2_with fail
    (with_reducible refine HCK.out.mono ?_); rintro e w1 ⟨rfl, b1⟩
    go_wp2_with fail
    go_ret
    exact ⟨by rw [HF.out]; rfl, b1⟩
  subst h0
  have HE1 := Lib.hid (show Au.keyE l = if b3 = true then 0 else 52 from by rw [HE.out, if_pos rfl])
  have hcases : ((u.length : Int) < 1 ∧ ¬ 1 ≤ u.length) ∨ ((1 : Int) ≤ u.length ∧ 1 ≤ u.length) := by omega
  go_enter Tryz.func20, Tryz.ntmps20
  go_wp2_with fail
  (with_reducible refine HCK.out.mono ?_); rintro e w1 ⟨rfl, b1⟩
  have HB1 := Lib.hid b1
  clear b1
  go_wp2_with fail
  (with_reducible refine (HU.out _ HB1.out).mono ?_); rintro e w2 ⟨rfl, b2⟩
  have HB2 := Lib.hid (bnext HB1.out b2)
  clear b2
  go_wp2_with fail
  (with_reducible refine (HS.out _ HB2.out).mono ?_); rintro e w3 ⟨rfl, b3'⟩
  have HB3 := Lib.hid (bnext HB2.out b3')
  clear b3' HCK HU HS HB1 HB2
  go_upto_region 5 with fail
  rcases hcases with ⟨k1, n1⟩ | ⟨k1, n1⟩
  · have HF := Lib.hid (show Au.keyE l = 52 from by rw [HE1.out, HK.out, decide_eq_false n1]; rfl)
    clear n1
    go_wp2_with fail
    go_ret
    exact ⟨by rw [HF.out]; rfl, HB3.out⟩
  have k1' : decide ((u.length : Int) < 1) = false := decide_eq_false (by omega)
  clear k1
  rcases (show ((32 : Int) < u.length ∧ ¬ u.length ≤ 32) ∨ ((u.length : Int) ≤ 32 ∧ u.length ≤ 32) from by omega) with ⟨k2, n2⟩ | ⟨k2, n2⟩
  · have HF := Lib.hid (show Au.keyE l = 52 from by rw [HE1.out, HK.out, decide_eq_false n2]; simp)
    clear n1 n2
    go_wp2_with fail
    go_ret
    exact ⟨by rw [HF.out]; rfl, HB3.out⟩
  have k2' : decide ((32 : Int) < u.length) = false := decide_eq_false (by omega)
  clear k2
  rcases (show ((s.length : Int) < 1 ∧ ¬ 1 ≤ s.length) ∨ ((1 : Int) ≤ s.length ∧ 1 ≤ s.length) from by omega) with ⟨k3, n3⟩ | ⟨k3, n3⟩
  · have HF := Lib.hid (show Au.keyE l = 52 from by rw [HE1.out, HK.out, decide_eq_false n3]; simp)
    clear n1 n2 n3
    go_wp2_with fail
    go_ret
    exact ⟨by rw [HF.out]; rfl, HB3.out⟩
  have k3' : decide ((s.length : Int) < 1) = false := decide_eq_false (by omega)
  clear k3
  rcases (show ((64 : Int) < s.length ∧ ¬ s.length ≤ 64) ∨ ((s.length : Int) ≤ 64 ∧ s.length ≤ 64) from by omega) with ⟨k4, n4⟩ | ⟨k4, n4⟩
  · have HF := Lib.hid (show Au.keyE l = 52 from by rw [HE1.out, HK.out, decide_eq_false n4]; simp)
    clear n1 n2 n3 n4
    go_wp2_with fail
    go_ret
    exact ⟨by rw [HF.out]; rfl, HB3.out⟩
  · have HF := Lib.hid (show Au.keyE l = 0 from by rw [HE1.out, HK.out, decide_eq_true n1, decide_eq_true n2, decide_eq_true n3, decide_eq_true n4]; rfl)
    have k4' : decide ((64 : Int) < s.length) = false := decide_eq_false (by omega)
    clear n1 n2 n3 n4 k4
    go_wp2_with fail
    go_ret
    exact ⟨by rw [HF.out]; rfl, HB3.out⟩
set_option maxHeartbeats 2000000 in
theorem rphase_any (c : Cnv) (ao : Option Addr) (m cp : Nat) (w : World) :
    Calls Tryz.prog 22 #[.agg #[.int .i64 c.id, .string (T c.proto), .int .i64 c.role, .int .i64 c.phase, .int .i64 c.step, (.slice ao m cp), .string (T c.own), .string (T c.peer), .string (T c.user), .int .i64 c.err]] w fun e w' => e = .returned (.int .i64 (Au.rphase c)) ∧ Below w.heap.size w w' := by
  have HML := Lib.hid (fun n => Calls.quiet_of_same ((rmsgs_any c.proto ((w.alloc (.cells #[.int .i64 c.id, .string (T c.proto), .int .i64 c.role, .int .i64 c.phase, .int .i64 c.step, (.slice ao m cp), .string (T c.own), .string (T c.peer), .string (T c.user), .int .i64 c.err] 25)).drewN n)).mono fun _ _ h => ⟨h.1, h.2.symm⟩))
  have HFI := Lib.hid (fun W => rfirst_any c.proto W)
  have HB0 := Lib.hid ((Below.refl w.heap.size w).alloc (Nat.le_refl _) (.cells #[.int .i64 c.id, .string (T c.proto), .int .i64 c.role, .int .i64 c.phase, .int .i64 c.step, (.slice ao m cp), .string (T c.own), .string (T c.peer), .string (T c.user), .int .i64 c.err] 25))
  obtain ⟨L, hL⟩ : ∃ L, Au.rlen c.proto = L := ⟨_, rfl⟩
  rw [hL] at HML
  by_cases h : c.step = L
  · have HF := Lib.hid (show Au.rphase c = 3 from by unfold Au.rphase; rw [if_pos (h.trans hL.symm)])
    have e1 : (c.step == L) = true := by rw [h]; simp
    clear h hL
    go_enter Tryz.func22, Tryz.ntmps22
    go_wp2_with fail
    go_quiet ((go_at_call 19; exact HML.out _))
    go_wp2_with fail
    go_ret
    exact ⟨by rw [HF.out]; rfl, below_drewN HB0.out _⟩
  · have HF := Lib.hid (show Au.rphase c = if Au.sends c.proto c.role c.step = true then 1 else 2 from by unfold Au.rphase; rw [if_neg (fun e => h (e.trans hL))])
    have e1 : (c.step == L) = false := beq_eq_false_iff_ne.2 h
    clear h hL
    obtain ⟨F, hFi⟩ : ∃ x, Au.first c.proto = x := ⟨_, rfl⟩
    obtain ⟨b1, hb1⟩ : ∃ b, decide (c.step.tmod 2 = 0) = b := ⟨_, rfl⟩
    obtain ⟨b2, hb2⟩ : ∃ b, decide (c.role = F) = b := ⟨_, rfl⟩
    have e2 : (c.step.tmod 2 == 0) = b1 := by rw [← hb1]; rfl
    have e3 : (c.role == F) = b2 := by rw [← hb2]; rfl
    have HG := Lib.hid (show Au.rphase c = if (b1 == b2) = true then 1 else 2 from by rw [HF.out]; unfold Au.sends Au.even; rw [hFi, hb1, hb2])
    rw [hFi] at HFI
    clear hb1 hb2 hFi HF
    cases b1 <;> cases b2
    all_goals
      go_enter Tryz.func22, Tryz.ntmps22
      go_wp2_with fail
      go_quiet ((go_at_call 19; exact HML.out _))
      have HF2 := Lib.hid (fun (n : Nat) => show Calls Tryz.prog 41 #[.string (T c.proto)] ((w.alloc (.cells #[.int .i64 c.id, .string (T c.proto), .int .i64 c.role, .int .i64 c.phase, .int .i64 c.step, (.slice ao m cp), .string (T c.own), .string (T c.peer), .string (T c.user), .int .i64 c.err] 25)).drewN (nq + n)) fun e w' => e = .returned (.int .i64 F) ∧ ∃ k, w' = (w.alloc (.cells #[.int .i64 c.id, .string (T c.proto), .int .i64 c.role, .int .i64 c.phase, .int .i64 c.step, (.slice ao m cp), .string (T c.own), .string (T c.peer), .string (T c.user), .int .i64 c.err] 25)).drewN (nq + k) from (HFI.out _).mono fun _ _ h => ⟨h.1, n, h.2.symm⟩)
      go_wp2_with fail
      go_quiet ((go_at_call 41; exact HF2.out _))
      go_wp2_with fail
      go_ret
      exact ⟨by rw [HG.out]; rfl, below_drewN (below_drewN HB0.out _) _⟩
end Go.Proofs.YtjjdaelddicokaaGreatDoor
