/- What the reference's knows and settled, and the laws' key, small and fair return. Conditions: keys and texts of at most 1000. -/
import Derived.Test.YtjjdaelddicokaaGreatDoorAuRef
import Derived.Test.YtjjdaelddicokaaGreatDoorAuRead
set_option linter.unusedVariables false
set_option linter.unusedSimpArgs false
namespace Go.Proofs.YtjjdaelddicokaaGreatDoor
open Go.RowKit
open Au (Att Cnv)
namespace Au
def rsettled (c : Cnv) : Cnv := { c with phase := rphase c, user := if rphase c = 3 then user c.key else c.user }
end Au
set_option maxHeartbeats 2000000 in
theorem rknows_any (c : Cnv) (ao : Option Addr) (m cp : Nat) (w : World) :
    Calls Tryz.prog 21 #[.agg #[.int .i64 c.id, .string (T c.proto), .int .i64 c.role, .int .i64 c.phase, .int .i64 c.step, (.slice ao m cp), .string (T c.own), .string (T c.peer), .string (T c.user), .int .i64 c.err]] w fun e w' => e = .returned (.bool (Au.rknows c)) ∧ Below w.heap.size w w' := by
  have HB := Lib.hid (fun (o : Obj) => (Below.refl w.heap.size w).alloc (Nat.le_refl _) o)
  have h0 : ((0 : Int) < c.step) ∨ (decide ((0 : Int) < c.step) = false) := by
    by_cases h : (0 : Int) < c.step
    · exact .inl h
    · exact .inr (decide_eq_false h)
  have h1' : ((1 : Int) < c.step) ∨ (decide ((1 : Int) < c.step) = false) := by
    by_cases h : (1 : Int) < c.step
    · exact .inl h
    · exact .inr (decide_eq_false h)
  by_cases h1 : c.proto = Au.sChal
  · have e1 : (c.proto == [99, 104, 97, 108]) = true := seq_yes h1
    by_cases h2 : c.role = 1
    · have e2 : (c.role == 1) = true := by rw [h2]; rfl
      rcases h0 with h0 | h0
      · have HF := Lib.hid (show Au.rknows c = true from by unfold Au.rknows; rw [if_pos h1, decide_eq_true h2, decide_eq_true h0]; rfl)
        clear h1 h2 h1'
        go_enter Tryz.func21, Tryz.ntmps21
        go_wp2_with fail
        go_ret
        exact ⟨by rw [HF.out]; rfl, HB.out _⟩
      · have HF := Lib.hid (show Au.rknows c = false from by unfold Au.rknows; rw [if_pos h1, h0, Bool.and_false])
        clear h1 h2 h1'
        go_enter Tryz.func21, Tryz.ntmps21
        go_wp2_with fail
        go_ret
        exact ⟨by rw [HF.out]; rfl, HB.out _⟩
    · have e2 : (c.role == 1) = false := beq_eq_false_iff_ne.2 h2
      have HF := Lib.hid (show Au.rknows c = false from by unfold Au.rknows; rw [if_pos h1, decide_eq_false h2, Bool.false_and])
      clear h1 h2 h0 h1'
      go_enter Tryz.func21, Tryz.ntmps21
      go_wp2_with fail
      go_ret
      exact ⟨by rw [HF.out]; rfl, HB.out _⟩
  have e1 : (c.proto == [99, 104, 97, 108]) = false := seq_no h1
  by_cases h2 : c.proto = Au.sMutual
  · have e2 : (c.proto == [109, 117, 116, 117, 97, 108]) = true := seq_yes h2
    by_cases h3 : c.role = 2
    · have e3 : (c.role == 2) = true := by rw [h3]; rfl
      have HR := Lib.hid (show Au.rknows c = decide (0 < c.step) from by unfold Au.rknows; rw [if_neg h1, if_pos ⟨h2, h3⟩])
      rcases h0 with h0 | h0
      · have HF := Lib.hid (show Au.rknows c = true from by rw [HR.out, decide_eq_true h0])
        clear h1 h2 h3 h1'
        go_enter Tryz.func21, Tryz.ntmps21
        go_wp2_with fail
        go_ret
        exact ⟨by rw [HF.out]; rfl, HB.out _⟩
      · have HF := Lib.hid (show Au.rknows c = false from by rw [HR.out, h0])
        clear h1 h2 h3 h1'
        go_enter Tryz.func21, Tryz.ntmps21
        go_wp2_with fail
        go_ret
        exact ⟨by rw [HF.out]; rfl, HB.out _⟩
    · have e3 : (c.role == 2) = false := beq_eq_false_iff_ne.2 h3
      have HR := Lib.hid (show Au.rknows c = decide (1 < c.step) from by unfold Au.rknows; rw [if_neg h1, if_neg (fun h => h3 h.2), decide_eq_true h2, Bool.true_and])
      rcases h1' with h1' | h1'
      · have HF := Lib.hid (show Au.rknows c = true from by rw [HR.out, decide_eq_true h1'])
        clear h1 h2 h3 h0
        go_enter Tryz.func21, Tryz.ntmps21
        go_wp2_with fail
        go_ret
        exact ⟨by rw [HF.out]; rfl, HB.out _⟩
      · have HF := Lib.hid (show Au.rknows c = false from by rw [HR.out, h1'])
        clear h1 h2 h3 h0
        go_enter Tryz.func21, Tryz.ntmps21
        go_wp2_with fail
        go_ret
        exact ⟨by rw [HF.out]; rfl, HB.out _⟩
  · have e2 : (c.proto == [109, 117, 116, 117, 97, 108]) = false := seq_no h2
    have HF := Lib.hid (show Au.rknows c = false from by unfold Au.rknows; rw [if_neg h1, if_neg (fun h => h2 h.1), decide_eq_false h2, Bool.false_and])
    clear h1 h2 h0 h1'
    go_enter Tryz.func21, Tryz.ntmps21
    go_wp2_with fail
    go_ret
    exact ⟨by rw [HF.out]; rfl, HB.out _⟩
set_option maxRecDepth 20000 in
set_option maxHeartbeats 8000000 in
theorem rsettled_any (c : Cnv) (ao : Option Addr) (m cp : Nat) (w : World) (hk : Atts w (.slice ao m cp) c.key) (hf : Fine c) :
    Calls Tryz.prog 30 #[.agg #[.int .i64 c.id, .string (T c.proto), .int .i64 c.role, .int .i64 c.phase, .int .i64 c.step, (.slice ao m cp), .string (T c.own), .string (T c.peer), .string (T c.user), .int .i64 c.err]] w fun e w' => e = .returned (.agg #[.int .i64 (Au.rsettled c).id, .string (T (Au.rsettled c).proto), .int .i64 (Au.rsettled c).role, .int .i64 (Au.rsettled c).phase, .int .i64 (Au.rsettled c).step, (.slice ao m cp), .string (T (Au.rsettled c).own), .string (T (Au.rsettled c).peer), .string (T (Au.rsettled c).user), .int .i64 (Au.rsettled c).err]) ∧ Below w.heap.size w w' := by
  have HRW := Lib.hid (two_rows w (.cells #[.int .i64 c.id, .string (T c.proto), .int .i64 c.role, .int .i64 c.phase, .int .i64 c.step, (.slice ao m cp), .string (T c.own), .string (T c.peer), .string (T c.user), .int .i64 c.err] 25) (.cells #[.int .i64 0, .string (T []), .int .i64 0, .int .i64 0, .int .i64 0, .slice none 0 0, .string (T []), .string (T []), .string (T []), .int .i64 0] 25))
  have HB0 := Lib.hid ((((Below.refl w.heap.size w).alloc (Nat.le_refl _) (.cells #[.int .i64 c.id, .string (T c.proto), .int .i64 c.role, .int .i64 c.phase, .int .i64 c.step, (.slice ao m cp), .string (T c.own), .string (T c.peer), .string (T c.user), .int .i64 c.err] 25)).alloc (by simp) (.cells #[.int .i64 0, .string (T []), .int .i64 0, .int .i64 0, .int .i64 0, .slice none 0 0, .string (T []), .string (T []), .string (T []), .int .i64 0] 25)))
  have HPH := Lib.hid (fun (W : World) => rphase_any c ao m cp W)
  have HNE := Lib.hid (show ∀ q, ao = some q → c.key ≠ [] → q.block < w.heap.size from fun q hq hn => by
    obtain ⟨_, hc⟩ := hk.at
    obtain ⟨b, off, ha, hlt, _⟩ := hc 0 (List.length_pos_iff.2 hn)
    rw [hq] at ha; cases ha; exact hlt)
  have HU := Lib.hid (fun (W : World) (h : Atts W (.slice ao m cp) c.key) => ruser_any (.slice ao m cp) c.key W h (by have := hf.kl; omega))
  have HAT := Lib.hid (fun (W : World) (hb : Below w.heap.size w W) => hk.below hb)
  obtain ⟨ph, hph⟩ : ∃ ph, Au.rphase c = ph := ⟨_, rfl⟩
  have HSE := Lib.hid (show (Au.rsettled c).phase = ph ∧ (Au.rsettled c).user = if ph = 3 then Au.user c.key else c.user from by rw [← hph]; exact ⟨rfl, rfl⟩)
  have HSF := Lib.hid (show (Au.rsettled c).id = c.id ∧ (Au.rsettled c).proto = c.proto ∧ (Au.rsettled c).role = c.role ∧ (Au.rsettled c).step = c.step ∧ (Au.rsettled c).own = c.own ∧ (Au.rsettled c).peer = c.peer ∧ (Au.rsettled c).err = c.err from ⟨rfl, rfl, rfl, rfl, rfl, rfl, rfl⟩)
  rw [hph] at HPH
  clear hk hf hph
  obtain ⟨s0, s1, s2, s4, s6, s7, s9⟩ := HSF.out
  rw [s0, s1, s2, s4, s6, s7, s9, HSE.out.1, HSE.out.2]
  clear s0 s1 s2 s4 s6 s7 s9 HSF HSE
  by_cases h3 : ph = 3
  · subst h3
    rw [if_pos rfl]
    go_enter Tryz.func30, Tryz.ntmps30
    go_wp2_with fail
    (with_reducible refine (HPH.out _).mono ?_); rintro e w1 ⟨rfl, b1⟩
    have hr1 := (b1.block _ (row_ltA HRW.out.1)).trans HRW.out.1
    have hz1 := (b1.block _ (row_ltA HRW.out.2)).trans HRW.out.2
    have HGS := Lib.hid (grown_set (grown_refl w1 w.heap.size) 3 (.int .i64 3))
    have HRS := Lib.hid (heap_setCell_same w1 w.heap.size 3 _ _ (.int .i64 3) hr1)
    have HZS := Lib.hid (grown_keep HGS.out hz1 (by omega))
    have HBS := Lib.hid (grown_below (bnext HB0.out b1) HGS.out (Nat.le_refl _))
    have HATS := Lib.hid (atts_keep (HAT.out w1 (bnext HB0.out b1)) HGS.out (fun q hq hn => by have := HNE.out q hq hn; omega))
    obtain ⟨⟨x0, x1, x2, x3, x4, x5, x6, x7, x8, x9⟩, ⟨y0, y1, y2, y3, y4, y5, y6, y7, y8, y9⟩⟩ := cv_readsZ hr1
    clear b1 hr1 hz1
    go_wp2_with fail
    (with_reducible refine (HU.out _ HATS.out).mono ?_); rintro e w2 ⟨rfl, b2⟩
    have hr2 := (b2.block _ (row_ltA HRS.out)).trans HRS.out
    have hz2 := (b2.block _ (row_ltA HZS.out)).trans HZS.out
    have HG2 := Lib.hid (grown_set (grown_refl w2 w.heap.size) 8 (.string (T (Au.user c.key))))
    have HZ2 := Lib.hid (grown_keep HG2.out hz2 (by omega))
    have HB2 := Lib.hid (grown_below (bnext HBS.out b2) HG2.out (Nat.le_refl _))
    clear x0 x1 x2 x3 x4 x5 x6 x7 x8 x9 y0 y1 y2 y3 y4 y5 y6 y7 y8 y9
    obtain ⟨⟨x0, x1, x2, x3, x4, x5, x6, x7, x8, x9⟩, ⟨y0, y1, y2, y3, y4, y5, y6, y7, y8, y9⟩⟩ := cv_readsZ hr2
    obtain ⟨⟨z0, z1, z2, z3, z4, z5, z6, z7, z8, z9⟩, ⟨u0, u1, u2, u3, u4, u5, u6, u7, u8, u9⟩⟩ := cv_readsZ hz2
    clear b2 hr2 hz2
    go_wp2_with fail
    have hq := cv_stored (.int .i64 c.id) (.string (T c.proto)) (.int .i64 c.role) (.int .i64 3) (.int .i64 c.step) ((.slice ao m cp)) (.string (T c.own)) (.string (T c.peer)) (.string (T (Au.user c.key))) (.int .i64 c.err) HZ2.out
    obtain ⟨⟨q0, q1, q2, q3, q4, q5, q6, q7, q8, q9⟩, _⟩ := cv_readsZ hq.1
    exact bodyPost_ret (v := .agg #[.int .i64 c.id, .string (T c.proto), .int .i64 c.role, .int .i64 3, .int .i64 c.step, (.slice ao m cp), .string (T c.own), .string (T c.peer), .string (T (Au.user c.key)), .int .i64 c.err]) (by simp [results, Tryz.results30, go_sem, q0, q1, q2, q3, q4, q5, q6, q7, q8, q9]) rfl ⟨rfl, grown_below HB2.out hq.2 (by omega)⟩
  · have e3 : (ph == 3) = false := beq_eq_false_iff_ne.2 h3
    rw [if_neg h3]
    go_enter Tryz.func30, Tryz.ntmps30
    go_wp2_with fail
    (with_reducible refine (HPH.out _).mono ?_); rintro e w1 ⟨rfl, b1⟩
    have hr1 := (b1.block _ (row_ltA HRW.out.1)).trans HRW.out.1
    have hz1 := (b1.block _ (row_ltA HRW.out.2)).trans HRW.out.2
    have HGS := Lib.hid (grown_set (grown_refl w1 w.heap.size) 3 (.int .i64 ph))
    have HZS := Lib.hid (grown_keep HGS.out hz1 (by omega))
    have HBS := Lib.hid (grown_below (bnext HB0.out b1) HGS.out (Nat.le_refl _))
    obtain ⟨⟨x0, x1, x2, x3, x4, x5, x6, x7, x8, x9⟩, ⟨y0, y1, y2, y3, y4, y5, y6, y7, y8, y9⟩⟩ := cv_readsZ hr1
    obtain ⟨⟨z0, z1, z2, z3, z4, z5, z6, z7, z8, z9⟩, ⟨u0, u1, u2, u3, u4, u5, u6, u7, u8, u9⟩⟩ := cv_readsZ hz1
    clear b1 hr1 hz1
    go_wp2_with fail
    have hq := cv_stored (.int .i64 c.id) (.string (T c.proto)) (.int .i64 c.role) (.int .i64 ph) (.int .i64 c.step) ((.slice ao m cp)) (.string (T c.own)) (.string (T c.peer)) (.string (T c.user)) (.int .i64 c.err) HZS.out
    obtain ⟨⟨q0, q1, q2, q3, q4, q5, q6, q7, q8, q9⟩, _⟩ := cv_readsZ hq.1
    exact bodyPost_ret (v := .agg #[.int .i64 c.id, .string (T c.proto), .int .i64 c.role, .int .i64 ph, .int .i64 c.step, (.slice ao m cp), .string (T c.own), .string (T c.peer), .string (T c.user), .int .i64 c.err]) (by simp [results, Tryz.results30, go_sem, q0, q1, q2, q3, q4, q5, q6, q7, q8, q9]) rfl ⟨rfl, grown_below HBS.out hq.2 (by omega)⟩
/-- The key of the laws. -/
def lkey (u s : List UInt8) : List Att := [⟨[117, 115, 101, 114], u, false⟩, ⟨[33, 115, 101, 99, 114, 101, 116], s, false⟩]
theorem key_any (u s : List UInt8) (w : World) :
    Calls Tryz.prog 25 #[.string (T u), .string (T s)] w fun e w' => e = .returned (.slice (some ⟨w.heap.size, 0, none⟩) 2 2) ∧ Atts w' (.slice (some ⟨w.heap.size, 0, none⟩) 2 2) (lkey u s) ∧ Below w.heap.size w w' := by
  have HB := Lib.hid (fun (o : Obj) => (Below.refl w.heap.size w).alloc (Nat.le_refl _) o)
  go_enter Tryz.func25, Tryz.ntmps25
  go_wp2_with fail
  go_ret
  refine ⟨rfl, ?_, HB.out _⟩
  have hr := heap_alloc_new w (.cells #[.string (T [117, 115, 101, 114]), .string (T u), .bool false, .string (T [33, 115, 101, 99, 114, 101, 116]), .string (T s), .bool false] 52)
  refine ⟨some ⟨w.heap.size, 0, none⟩, 2, rfl, Nat.le_refl _, (fun e => by cases e), fun j hj => ⟨w.heap.size, 0, rfl, row_ltA hr, ?_⟩⟩
  match j, hj with
  | 0, _ => exact ⟨by rw [cell_of_row _ _ _ _ _ _ hr]; rfl, by rw [cell_of_row _ _ _ _ _ _ hr]; rfl, by rw [cell_of_row _ _ _ _ _ _ hr]; rfl⟩
  | 1, _ => exact ⟨by rw [cell_of_row _ _ _ _ _ _ hr]; rfl, by rw [cell_of_row _ _ _ _ _ _ hr]; rfl, by rw [cell_of_row _ _ _ _ _ _ hr]; rfl⟩
end Go.Proofs.YtjjdaelddicokaaGreatDoor
