/- What auth.length, sends, phase, carries, messages, isKey, Protos return. Conditions: keys and texts of at most 1000. -/
import Derived.Test.YtjjdaelddicokaaGreatDoorAuMsg
import Derived.Deep.CutBlock
set_option linter.unusedVariables false
set_option linter.unusedSimpArgs false
namespace Go.Proofs.YtjjdaelddicokaaGreatDoor
open Go.RowKit
open Au (Att Cnv)

theorem msgs_chal (c : Cnv) (ao : Option Addr) (m cp : Nat) (w : World) (h1 : c.proto = Au.sChal) :
    Calls Tryz.prog 27 #[.agg #[.int .i64 c.id, .string (T c.proto), .int .i64 c.role, .int .i64 c.phase, .int .i64 c.step, (.slice ao m cp), .string (T c.own), .string (T c.peer), .string (T c.user), .int .i64 c.err]] w fun e w' => e = .returned (.func (.func 44) #[.agg #[.int .i64 c.id, .string (T c.proto), .int .i64 c.role, .int .i64 c.phase, .int .i64 c.step, (.slice ao m cp), .string (T c.own), .string (T c.peer), .string (T c.user), .int .i64 c.err]] #[]) ∧ Below w.heap.size w w' := by
  have HB := Lib.hid (fun (o : Obj) => (Below.refl w.heap.size w).alloc (Nat.le_refl _) o)
  have hmf : ∀ (fn : Fn) (first cap : Array Value) (w : World), (Instr.makeFunc fn first cap).run Tryz.prog w = .ok (.func fn first cap) w := fun _ _ _ _ => rfl
  have e1 : (c.proto == [99, 104, 97, 108]) = true := seq_yes h1
  clear h1
  go_enter Tryz.func27, Tryz.ntmps27
  go_wp2_with fail
  go_ret
  exact ⟨rfl, HB.out _⟩
theorem msgs_mut (c : Cnv) (ao : Option Addr) (m cp : Nat) (w : World) (h1 : c.proto = Au.sMutual) :
    Calls Tryz.prog 27 #[.agg #[.int .i64 c.id, .string (T c.proto), .int .i64 c.role, .int .i64 c.phase, .int .i64 c.step, (.slice ao m cp), .string (T c.own), .string (T c.peer), .string (T c.user), .int .i64 c.err]] w fun e w' => e = .returned (.func (.func 45) #[.agg #[.int .i64 c.id, .string (T c.proto), .int .i64 c.role, .int .i64 c.phase, .int .i64 c.step, (.slice ao m cp), .string (T c.own), .string (T c.peer), .string (T c.user), .int .i64 c.err]] #[]) ∧ Below w.heap.size w w' := by
  have HB := Lib.hid (fun (o : Obj) => (Below.refl w.heap.size w).alloc (Nat.le_refl _) o)
  have hmf : ∀ (fn : Fn) (first cap : Array Value) (w : World), (Instr.makeFunc fn first cap).run Tryz.prog w = .ok (.func fn first cap) w := fun _ _ _ _ => rfl
  have e1 : (c.proto == [99, 104, 97, 108]) = false := seq_no (by rw [h1]; decide)
  have e2 : (c.proto == [109, 117, 116, 117, 97, 108]) = true := seq_yes h1
  clear h1
  go_enter Tryz.func27, Tryz.ntmps27
  go_wp2_with fail
  go_ret
  exact ⟨rfl, HB.out _⟩
theorem msgs_pln (c : Cnv) (ao : Option Addr) (m cp : Nat) (w : World) (h1 : ¬ c.proto = Au.sChal) (h2 : ¬ c.proto = Au.sMutual) :
    Calls Tryz.prog 27 #[.agg #[.int .i64 c.id, .string (T c.proto), .int .i64 c.role, .int .i64 c.phase, .int .i64 c.step, (.slice ao m cp), .string (T c.own), .string (T c.peer), .string (T c.user), .int .i64 c.err]] w fun e w' => e = .returned (.func (.func 46) #[.agg #[.int .i64 c.id, .string (T c.proto), .int .i64 c.role, .int .i64 c.phase, .int .i64 c.step, (.slice ao m cp), .string (T c.own), .string (T c.peer), .string (T c.user), .int .i64 c.err]] #[]) ∧ Below w.heap.size w w' := by
  have HB := Lib.hid (fun (o : Obj) => (Below.refl w.heap.size w).alloc (Nat.le_refl _) o)
  have hmf : ∀ (fn : Fn) (first cap : Array Value) (w : World), (Instr.makeFunc fn first cap).run Tryz.prog w = .ok (.func fn first cap) w := fun _ _ _ _ => rfl
  have e1 : (c.proto == [99, 104, 97, 108]) = false := seq_no h1
  have e2 : (c.proto == [109, 117, 116, 117, 97, 108]) = false := seq_no h2
  clear h1 h2
  go_enter Tryz.func27, Tryz.ntmps27
  go_wp2_with fail
  go_ret
  exact ⟨rfl, HB.out _⟩
theorem length_any (p : List UInt8) (w : World) :
    Calls Tryz.prog 35 #[.string (T p)] w fun e w' => e = .returned (.int .i64 (Au.len p)) ∧ w = w' := by
  by_cases h : p = Au.sPlain
  · have HF := Lib.hid (show Au.len p = 2 from by unfold Au.len; rw [if_pos h])
    have e1 : (p == [112, 108, 97, 105, 110]) = true := seq_yes h
    clear h
    go_enter Tryz.func35, Tryz.ntmps35
    go_wp2_with fail
    go_ret
    exact ⟨by rw [HF.out]; rfl, rfl⟩
  · have HF := Lib.hid (show Au.len p = 3 from by unfold Au.len; rw [if_neg h])
    have e1 : (p == [112, 108, 97, 105, 110]) = false := seq_no h
    clear h
    go_enter Tryz.func35, Tryz.ntmps35
    go_wp2_with fail
    go_ret
    exact ⟨by rw [HF.out]; rfl, rfl⟩
set_option maxHeartbeats 1000000 in
theorem sends_any (p : List UInt8) (role n : Int) (w : World) :
    Calls Tryz.prog 53 #[.string (T p), .int .i64 role, .int .i64 n] w fun e w' => e = .returned (.bool (Au.sends p role n)) ∧ w = w' := by
  obtain ⟨b1, hb1⟩ : ∃ b, decide (n.tmod 2 = 0) = b := ⟨_, rfl⟩
  have e2 : (n.tmod 2 == 0) = b1 := by rw [← hb1]; rfl
  by_cases h : p = Au.sChal
  · have e1 : (p == [99, 104, 97, 108]) = true := seq_yes h
    obtain ⟨b2, hb2⟩ : ∃ b, decide (role = 2) = b := ⟨_, rfl⟩
    have e3 : (role == 2) = b2 := by rw [← hb2]; rfl
    have HF := Lib.hid (show Au.sends p role n = (b1 == b2) from by unfold Au.sends Au.even Au.first; rw [if_pos h, hb1, hb2])
    clear h hb1 hb2
    cases b1 <;> cases b2
    all_goals
      go_enter Tryz.func53, Tryz.ntmps53
      go_wp2_with fail
      go_ret
      exact ⟨by rw [HF.out]; rfl, rfl⟩
  · have e1 : (p == [99, 104, 97, 108]) = false := seq_no h
    obtain ⟨b2, hb2⟩ : ∃ b, decide (role = 1) = b := ⟨_, rfl⟩
    have e3 : (role == 1) = b2 := by rw [← hb2]; rfl
    have HF := Lib.hid (show Au.sends p role n = (b1 == b2) from by unfold Au.sends Au.even Au.first; rw [if_neg h, hb1, hb2])
    clear h hb1 hb2
    cases b1 <;> cases b2
    all_goals
      go_enter Tryz.func53, Tryz.ntmps53
      go_wp2_with fail
      go_ret
      exact ⟨by rw [HF.out]; rfl, rfl⟩
set_option maxHeartbeats 1000000 in
theorem phase_any (c : Cnv) (ao : Option Addr) (m cp : Nat) (w : World) :
    Calls Tryz.prog 47 #[.agg #[.int .i64 c.id, .string (T c.proto), .int .i64 c.role, .int .i64 c.phase, .int .i64 c.step, (.slice ao m cp), .string (T c.own), .string (T c.peer), .string (T c.user), .int .i64 c.err]] w fun e w' => e = .returned (.int .i64 (Au.phase c)) ∧ Below w.heap.size w w' := by
  have HB := Lib.hid (fun (o : Obj) => (Below.refl w.heap.size w).alloc (Nat.le_refl _) o)
  have HSN := Lib.hid (fun (W : World) => sends_any c.proto c.role c.step W)
  have HSE := Lib.hid (fun n => Calls.quiet_of_same ((length_any c.proto ((w.alloc (.cells #[.int .i64 c.id, .string (T c.proto), .int .i64 c.role, .int .i64 c.phase, .int .i64 c.step, (.slice ao m cp), .string (T c.own), .string (T c.peer), .string (T c.user), .int .i64 c.err] 25)).drewN n)).mono fun _ _ h => ⟨h.1, h.2.symm⟩))
  have HB0 := Lib.hid (HB.out (.cells #[.int .i64 c.id, .string (T c.proto), .int .i64 c.role, .int .i64 c.phase, .int .i64 c.step, (.slice ao m cp), .string (T c.own), .string (T c.peer), .string (T c.user), .int .i64 c.err] 25))
  obtain ⟨L, hL⟩ : ∃ L, Au.len c.proto = L := ⟨_, rfl⟩
  rw [hL] at HSE
  by_cases h : c.step = L
  · have HF := Lib.hid (show Au.phase c = 3 from by unfold Au.phase; rw [if_pos (h.trans hL.symm)])
    have e1 : (c.step == L) = true := by rw [h]; simp
    clear h hL
    go_enter Tryz.func47, Tryz.ntmps47
    go_wp2_with fail
    go_quiet ((go_at_call 35; exact HSE.out _))
    go_wp2_with fail
    go_ret
    exact ⟨by rw [HF.out]; rfl, below_drewN HB0.out _⟩
  · have HF := Lib.hid (show Au.phase c = if Au.sends c.proto c.role c.step = true then 1 else 2 from by unfold Au.phase; rw [if_neg (fun e => h (e.trans hL))])
    have e1 : (c.step == L) = false := beq_eq_false_iff_ne.2 h
    clear h hL
    generalize Au.sends c.proto c.role c.step = b at *
    cases b
    all_goals
      go_enter Tryz.func47, Tryz.ntmps47
      go_wp2_with fail
      go_quiet ((go_at_call 35; exact HSE.out _))
      go_wp2_with fail
      (with_reducible refine (HSN.out _).mono ?_); rintro e w1 ⟨rfl, rfl⟩
      go_wp2_with fail
      go_ret
      exact ⟨by rw [HF.out]; rfl, below_drewN HB0.out _⟩
set_option maxHeartbeats 2000000 in
theorem carries_any (c : Cnv) (ao : Option Addr) (m cp : Nat) (n : Int) (w : World) (hk : Atts w (.slice ao m cp) c.key) (hf : Fine c) :
    Calls Tryz.prog 37 #[.agg #[.int .i64 c.id, .string (T c.proto), .int .i64 c.role, .int .i64 c.phase, .int .i64 c.step, (.slice ao m cp), .string (T c.own), .string (T c.peer), .string (T c.user), .int .i64 c.err], .int .i64 n] w fun e w' => e = .returned (.int .i64 (Au.carries c n)) ∧ Below w.heap.size w w' := by
  have HB := Lib.hid (fun (o : Obj) => (Below.refl w.heap.size w).alloc (Nat.le_refl _) o)
  by_cases h1 : c.proto = Au.sChal
  · have e1 : (c.proto == [99, 104, 97, 108]) = true := seq_yes h1
    have e2 : (c.proto == [109, 117, 116, 117, 97, 108]) = false := seq_no (by rw [h1]; decide)
    have hm : ¬ c.proto = Au.sMutual := by rw [h1]; decide
    by_cases h2 : n = 0
    · have HF := Lib.hid (show Au.carries c n = 0 from by unfold Au.carries; rw [if_pos (.inl ⟨h1, h2⟩)])
      clear h1 hm
      go_enter Tryz.func37, Tryz.ntmps37
      go_wp2_with fail
      go_ret
      exact ⟨by rw [HF.out]; rfl, HB.out _⟩
    · have HF := Lib.hid (show Au.carries c n = -1 from by unfold Au.carries; rw [if_neg (by simp [h2, hm]), if_neg (by simp [hm])])
      have e3 : (n == 0) = false := beq_eq_false_iff_ne.2 h2
      clear h1 h2 hm
      go_enter Tryz.func37, Tryz.ntmps37
      go_wp2_with fail
      go_ret
      exact ⟨by rw [HF.out]; rfl, HB.out _⟩
  · have e1 : (c.proto == [99, 104, 97, 108]) = false := seq_no h1
    by_cases hm : c.proto = Au.sMutual
    · have e2 : (c.proto == [109, 117, 116, 117, 97, 108]) = true := seq_yes hm
      by_cases h2 : n = 1
      · have HF := Lib.hid (show Au.carries c n = 0 from by unfold Au.carries; rw [if_pos (.inr ⟨hm, h2⟩)])
        clear h1 hm
        go_enter Tryz.func37, Tryz.ntmps37
        go_wp2_with fail
        go_ret
        exact ⟨by rw [HF.out]; rfl, HB.out _⟩
      · have e3 : (n == 1) = false := beq_eq_false_iff_ne.2 h2
        by_cases h3 : n = 0
        · have HF := Lib.hid (show Au.carries c n = ((Au.put (Au.user c.key)).length : Int) from by unfold Au.carries; rw [if_neg (by simp [h1, h2]), if_pos ⟨hm, h3⟩])
          have HU := Lib.hid (fun (W : World) (hb : Below w.heap.size w W) => show Calls Tryz.prog 48 #[.agg #[.int .i64 c.id, .string (T c.proto), .int .i64 c.role, .int .i64 c.phase, .int .i64 c.step, (.slice ao m cp), .string (T c.own), .string (T c.peer), .string (T c.user), .int .i64 c.err], .string (T [117, 115, 101, 114])] W fun e w' => e = .returned (.string (T (Au.user c.key))) ∧ Below W.heap.size W w' from tval_any c (.slice ao m cp) [117, 115, 101, 114] W (hk.below hb) hf)
          have HCT := Lib.hid (fun (W : World) => counted_any (Au.user c.key) W (by have := hf.find Au.sUser; unfold Au.user; omega))
          have HB0 := Lib.hid (HB.out (.cells #[.int .i64 c.id, .string (T c.proto), .int .i64 c.role, .int .i64 c.phase, .int .i64 c.step, (.slice ao m cp), .string (T c.own), .string (T c.peer), .string (T c.user), .int .i64 c.err] 25))
          clear h1 hm h2 hk hf
          subst h3
          go_enter Tryz.func37, Tryz.ntmps37
          go_wp2_with fail
          (with_reducible refine (HU.out _ HB0.out).mono ?_); rintro e w1 ⟨rfl, b1⟩
          have HB1 := Lib.hid (bnext HB0.out b1)
          clear b1
          go_wp2_with fail
          (with_reducible refine (HCT.out _).mono ?_); rintro e w2 ⟨rfl, b2⟩
          have HB2 := Lib.hid (bnext HB1.out b2)
          clear b2
          go_wp2_with fail
          go_ret
          exact ⟨by rw [HF.out]; rfl, HB2.out⟩
        · have HF := Lib.hid (show Au.carries c n = -1 from by unfold Au.carries; rw [if_neg (by simp [h2, h1]), if_neg (by simp [h3])])
          have e4 : (n == 0) = false := beq_eq_false_iff_ne.2 h3
          clear h1 h2 hm h3
          go_enter Tryz.func37, Tryz.ntmps37
          go_wp2_with fail
          go_ret
          exact ⟨by rw [HF.out]; rfl, HB.out _⟩
    · have HF := Lib.hid (show Au.carries c n = -1 from by unfold Au.carries; rw [if_neg (by simp [h1, hm]), if_neg (by simp [hm])])
      have e2 : (c.proto == [109, 117, 116, 117, 97, 108]) = false := seq_no hm
      clear h1 hm
      go_enter Tryz.func37, Tryz.ntmps37
      go_wp2_with fail
      go_ret
      exact ⟨by rw [HF.out]; rfl, HB.out _⟩
set_option maxHeartbeats 2000000 in
theorem iskey_any (v : Value) (l : List Att) (w : World) (hv : Atts w v l) (hl : l.length ≤ 1000000) :
    Calls Tryz.prog 34 #[v] w fun e w' => e = .returned (.bool (Au.has Au.sUser l && Au.has Au.sSecret l && Au.keyOk l)) ∧ Below w.heap.size w w' := by
  have HU := Lib.hid (show Calls Tryz.prog 52 #[v, .string (T [117, 115, 101, 114])] w fun e w' => e = .returned (.tuple #[.string (T (Au.user l)), .bool (Au.has Au.sUser l)]) ∧ Below w.heap.size w w' from afind_any v l Au.sUser w hv hl)
  have HS := Lib.hid (fun (W : World) (hb : Below w.heap.size w W) => show Calls Tryz.prog 52 #[v, .string (T [33, 115, 101, 99, 114, 101, 116])] W fun e w' => e = .returned (.tuple #[.string (T (Au.sec l)), .bool (Au.has Au.sSecret l)]) ∧ Below W.heap.size W w' from afind_any v l Au.sSecret W (hv.below hb) hl)
  have HK := Lib.hid (show Au.keyOk l = (decide (1 ≤ (Au.user l).length) && decide ((Au.user l).length ≤ 32) && decide (1 ≤ (Au.sec l).length) && decide ((Au.sec l).length ≤ 64)) from rfl)
  obtain ⟨ao, m, cp, rfl⟩ := hv.form
  clear hv
  generalize Au.user l = u at *
  generalize Au.sec l = s at *
  generalize Au.has Au.sUser l = b1 at *
  generalize Au.has Au.sSecret l = b2 at *
  generalize Au.keyOk l = b3 at *
  have k1 : ((1 : Int) ≤ u.length ∧ 1 ≤ u.length) ∨ (¬ (1 : Int) ≤ u.length ∧ ¬ 1 ≤ u.length) := by omega
  have k2 : ((u.length : Int) ≤ 32 ∧ u.length ≤ 32) ∨ (¬ (u.length : Int) ≤ 32 ∧ ¬ u.length ≤ 32) := by omega
  have k3 : ((1 : Int) ≤ s.length ∧ 1 ≤ s.length) ∨ (¬ (1 : Int) ≤ s.length ∧ ¬ 1 ≤ s.length) := by omega
  have k4 : ((s.length : Int) ≤ 64 ∧ s.length ≤ 64) ∨ (¬ (s.length : Int) ≤ 64 ∧ ¬ s.length ≤ 64) := by omega
  go_enter Tryz.func34, Tryz.ntmps34
  go_wp2_with fail
  (with_reducible refine HU.out.mono ?_); rintro e w1 ⟨rfl, h1⟩
  have HB1 := Lib.hid h1
  clear h1
  go_wp2_with fail
  (with_reducible refine (HS.out _ HB1.out).mono ?_); rintro e w2 ⟨rfl, h2⟩
  have HB2 := Lib.hid (bnext HB1.out h2)
  clear h2
  go_upto_region 3 with fail
  cases b1
  · go_wp2_with fail
    go_ret
    exact ⟨rfl, HB2.out⟩
  cases b2
  · go_wp2_with fail
    go_ret
    exact ⟨rfl, HB2.out⟩
  rcases k1 with ⟨k1, n1⟩ | ⟨k1, n1⟩
  rotate_left
  · have HF := Lib.hid (show b3 = false from by rw [HK.out, decide_eq_false n1]; rfl)
    clear k2 k3 k4 n1
    go_wp2_with fail
    go_ret
    exact ⟨by rw [HF.out]; rfl, HB2.out⟩
  rcases k2 with ⟨k2, n2⟩ | ⟨k2, n2⟩
  rotate_left
  · have HF := Lib.hid (show b3 = false from by rw [HK.out, decide_eq_false n2]; simp)
    clear k3 k4 n1 n2
    go_wp2_with fail
    go_ret
    exact ⟨by rw [HF.out]; rfl, HB2.out⟩
  rcases k3 with ⟨k3, n3⟩ | ⟨k3, n3⟩
  rotate_left
  · have HF := Lib.hid (show b3 = false from by rw [HK.out, decide_eq_false n3]; simp)
    clear k4 n1 n2 n3
    go_wp2_with fail
    go_ret
    exact ⟨by rw [HF.out]; rfl, HB2.out⟩
  rcases k4 with ⟨k4, n4⟩ | ⟨k4, n4⟩
  · have HF := Lib.hid (show b3 = true from by rw [HK.out, decide_eq_true n1, decide_eq_true n2, decide_eq_true n3, decide_eq_true n4]; rfl)
    clear n1 n2 n3 n4
    go_wp2_with fail
    go_ret
    exact ⟨by rw [HF.out]; rfl, HB2.out⟩
  · have HF := Lib.hid (show b3 = false from by rw [HK.out, decide_eq_false n4]; simp)
    have k5 : decide ((s.length : Int) ≤ 64) = false := decide_eq_false (by omega)
    clear n1 n2 n3 n4 k4
    go_wp2_with fail
    go_ret
    exact ⟨by rw [HF.out]; rfl, HB2.out⟩
/-- The names of the protocols. -/
def prs : List ByteArray := [T [99, 104, 97, 108], T [109, 117, 116, 117, 97, 108], T [112, 108, 97, 105, 110]]
theorem protos_any (w : World) :
    Calls Tryz.prog 32 #[] w fun e w' => ∃ b, e = .returned (.slice (some ⟨b, 0, none⟩) 3 3) ∧ Strs w' (.slice (some ⟨b, 0, none⟩) 3 3) prs ∧ Below w.heap.size w w' := by
  have HB := Lib.hid (fun (o : Obj) => (Below.refl w.heap.size w).alloc (Nat.le_refl _) o)
  go_enter Tryz.func32, Tryz.ntmps32
  go_wp2_with fail
  go_ret
  refine ⟨w.heap.size, rfl, ?_, HB.out _⟩
  refine .inr (.inr ⟨w.heap.size, 0, 3, rfl, by simp, Nat.le_refl _, fun j hj => ?_⟩)
  have hr := heap_alloc_new w (.cells #[.string (T [99, 104, 97, 108]), .string (T [109, 117, 116, 117, 97, 108]), .string (T [112, 108, 97, 105, 110])] 9)
  match j, hj with
  | 0, _ => rw [cell_of_row _ _ _ _ _ _ hr]; rfl
  | 1, _ => rw [cell_of_row _ _ _ _ _ _ hr]; rfl
  | 2, _ => rw [cell_of_row _ _ _ _ _ _ hr]; rfl
theorem prs_has (p : List UInt8) : has (T p) prs = Au.known p := by
  have h : has (T p) prs = true ↔ Au.known p = true := by
    rw [has_iff]
    simp only [prs, List.mem_cons, List.not_mem_nil, or_false, Au.known, Bool.or_eq_true, decide_eq_true_eq]
    constructor
    · rintro (h | h | h)
      · exact .inl (.inl (T_inj h))
      · exact .inl (.inr (T_inj h))
      · exact .inr (T_inj h)
    · rintro ((h | h) | h)
      · rw [h]; exact .inl rfl
      · rw [h]; exact .inr (.inl rfl)
      · rw [h]; exact .inr (.inr rfl)
  cases h1 : has (T p) prs <;> cases h2 : Au.known p
  · rfl
  · rw [h.2 h2] at h1; cases h1
  · rw [h.1 h1] at h2; cases h2
  · rfl
end Go.Proofs.YtjjdaelddicokaaGreatDoor
