/- The law AuthOnly returns true. Conditions: the slice of the key holds the given list; the 64 constants in the variable. -/
import Derived.Test.YtjjdaelddicokaaDoorAuAwake
import Derived.Test.YtjjdaelddicokaaDoorAuRRight
set_option linter.unusedVariables false
set_option linter.unusedSimpArgs false
namespace Go.Proofs.YtjjdaelddicokaaDoor
open Go.RowKit
open Au (Att Cnv)
set_option maxRecDepth 100000 in
set_option maxHeartbeats 16000000 in
theorem only_T (c : Cnv) (kv : Value) (s t : List UInt8) (w : World) (hk : Atts w kv c.key) (hK : KIn w) :
    Calls Tryd.prog 5 #[.agg #[.int .i64 c.id, .string (T c.proto), .int .i64 c.role, .int .i64 c.phase, .int .i64 c.step, kv, .string (T c.own), .string (T c.peer), .string (T c.user), .int .i64 c.err], .string (T s), .string (T t)] w fun e w' => e = .returned (.bool true) ∧ Below w.heap.size w w' := by
  obtain ⟨ao, m, cp, rfl⟩ := hk.form
  have HK := Lib.hid hk
  have HAL := Lib.hid (fun (W : World) (h : Below w.heap.size w W) => awake_any W (hK.below h))
  have HKI := Lib.hid (fun (W : World) (h : Below w.heap.size w W) => hK.below h)
  have HFR := Lib.hid (fun (W : World) (h : Atts W (.slice ao m cp) c.key) => fair_any c (.slice ao m cp) W h)
  clear hk hK
  cases hfr : Au.fair c with
  | false =>
    rw [hfr] at HFR
    clear hfr
    go_enter Tryd.func5, Tryd.ntmps5
    go_upto_region 1 with fail
    have HX1 := Lib.hid (bx_new (c := c) HK.out)
    have HBV1 := Lib.hid ((Below.refl w.heap.size w).alloc (Nat.le_refl _) (.cells #[.int .i64 c.id, .string (T c.proto), .int .i64 c.role, .int .i64 c.phase, .int .i64 c.step, (.slice ao m cp), .string (T c.own), .string (T c.peer), .string (T c.user), .int .i64 c.err] 28))
    clear HK
    generalize World.alloc _ _ = V1 at *
    obtain ⟨⟨x0, x1, x2, x3, x4, x5, x6, x7, x8, x9⟩, _⟩ := cv_reads (Bx.row (HX1.out.next (Below.refl _ _)))
    go_wp2_with fail
    (with_reducible refine (HFR.out _ (Bx.att (HX1.out.next (Below.refl _ _)))).mono ?_); rintro e v2 ⟨rfl, hbl⟩
    clear x0 x1 x2 x3 x4 x5 x6 x7 x8 x9
    have HBW3 := Lib.hid (hbl)
    clear hbl
    go_wp2_with fail
    (with_reducible refine (HAL.out _ (bnext HBV1.out HBW3.out)).mono ?_); rintro e v4 ⟨rfl, hbz⟩
    have HBW5 := Lib.hid (hbz)
    clear hbz
    have HE := Lib.hid (bnext (bnext HBV1.out HBW3.out) HBW5.out)
    go_wp2_with fail
    go_ret
    exact ⟨rfl, HE.out⟩
  | true =>
    have hfn := Au.fair_fine hfr
    rw [hfr] at HFR
    clear hfr
    by_cases ls : 300 < s.length
    · have f1 : (300 : Int) < (s.length : Int) := by omega
      clear ls hfn
      go_enter Tryd.func5, Tryd.ntmps5
      go_upto_region 1 with fail
      have HX1 := Lib.hid (bx_new (c := c) HK.out)
      have HBV1 := Lib.hid ((Below.refl w.heap.size w).alloc (Nat.le_refl _) (.cells #[.int .i64 c.id, .string (T c.proto), .int .i64 c.role, .int .i64 c.phase, .int .i64 c.step, (.slice ao m cp), .string (T c.own), .string (T c.peer), .string (T c.user), .int .i64 c.err] 28))
      clear HK
      generalize World.alloc _ _ = V1 at *
      obtain ⟨⟨x0, x1, x2, x3, x4, x5, x6, x7, x8, x9⟩, _⟩ := cv_reads (Bx.row (HX1.out.next (Below.refl _ _)))
      go_wp2_with fail
      (with_reducible refine (HFR.out _ (Bx.att (HX1.out.next (Below.refl _ _)))).mono ?_); rintro e v2 ⟨rfl, hbl⟩
      clear x0 x1 x2 x3 x4 x5 x6 x7 x8 x9
      have HBW3 := Lib.hid (hbl)
      clear hbl
      go_wp2_with fail
      (with_reducible refine (HAL.out _ (bnext HBV1.out HBW3.out)).mono ?_); rintro e v4 ⟨rfl, hbz⟩
      have HBW5 := Lib.hid (hbz)
      clear hbz
      have HE := Lib.hid (bnext (bnext HBV1.out HBW3.out) HBW5.out)
      go_wp2_with fail
      go_ret
      exact ⟨rfl, HE.out⟩
    have f1 : decide ((300 : Int) < (s.length : Int)) = false := decide_eq_false (by omega)
    by_cases lt : 300 < t.length
    · have f2 : (300 : Int) < (t.length : Int) := by omega
      clear ls lt hfn
      go_enter Tryd.func5, Tryd.ntmps5
      go_upto_region 1 with fail
      have HX1 := Lib.hid (bx_new (c := c) HK.out)
      have HBV1 := Lib.hid ((Below.refl w.heap.size w).alloc (Nat.le_refl _) (.cells #[.int .i64 c.id, .string (T c.proto), .int .i64 c.role, .int .i64 c.phase, .int .i64 c.step, (.slice ao m cp), .string (T c.own), .string (T c.peer), .string (T c.user), .int .i64 c.err] 28))
      clear HK
      generalize World.alloc _ _ = V1 at *
      obtain ⟨⟨x0, x1, x2, x3, x4, x5, x6, x7, x8, x9⟩, _⟩ := cv_reads (Bx.row (HX1.out.next (Below.refl _ _)))
      go_wp2_with fail
      (with_reducible refine (HFR.out _ (Bx.att (HX1.out.next (Below.refl _ _)))).mono ?_); rintro e v2 ⟨rfl, hbl⟩
      clear x0 x1 x2 x3 x4 x5 x6 x7 x8 x9
      have HBW3 := Lib.hid (hbl)
      clear hbl
      go_wp2_with fail
      (with_reducible refine (HAL.out _ (bnext HBV1.out HBW3.out)).mono ?_); rintro e v4 ⟨rfl, hbz⟩
      have HBW5 := Lib.hid (hbz)
      clear hbz
      have HE := Lib.hid (bnext (bnext HBV1.out HBW3.out) HBW5.out)
      go_wp2_with fail
      go_ret
      exact ⟨rfl, HE.out⟩
    have f2 : decide ((300 : Int) < (t.length : Int)) = false := decide_eq_false (by omega)
    by_cases hst : s = t
    · have f3 : (s == t) = true := seq_yes hst
      clear ls lt hfn hst
      go_enter Tryd.func5, Tryd.ntmps5
      go_upto_region 1 with fail
      have HX1 := Lib.hid (bx_new (c := c) HK.out)
      have HBV1 := Lib.hid ((Below.refl w.heap.size w).alloc (Nat.le_refl _) (.cells #[.int .i64 c.id, .string (T c.proto), .int .i64 c.role, .int .i64 c.phase, .int .i64 c.step, (.slice ao m cp), .string (T c.own), .string (T c.peer), .string (T c.user), .int .i64 c.err] 28))
      clear HK
      generalize World.alloc _ _ = V1 at *
      obtain ⟨⟨x0, x1, x2, x3, x4, x5, x6, x7, x8, x9⟩, _⟩ := cv_reads (Bx.row (HX1.out.next (Below.refl _ _)))
      go_wp2_with fail
      (with_reducible refine (HFR.out _ (Bx.att (HX1.out.next (Below.refl _ _)))).mono ?_); rintro e v2 ⟨rfl, hbl⟩
      clear x0 x1 x2 x3 x4 x5 x6 x7 x8 x9
      have HBW3 := Lib.hid (hbl)
      clear hbl
      go_wp2_with fail
      (with_reducible refine (HAL.out _ (bnext HBV1.out HBW3.out)).mono ?_); rintro e v4 ⟨rfl, hbz⟩
      have HBW5 := Lib.hid (hbz)
      clear hbz
      have HE := Lib.hid (bnext (bnext HBV1.out HBW3.out) HBW5.out)
      go_wp2_with fail
      go_ret
      exact ⟨rfl, HE.out⟩
    have f3 : (s == t) = false := seq_no hst
    have HRR := Lib.hid (fun (W : World) (h : Atts W (.slice ao m cp) c.key) => rright_any c ao m cp W h hfn.1)
    cases hri : Au.right c with
    | false =>
      rw [hri] at HRR
      clear ls lt hfn hst hri
      go_enter Tryd.func5, Tryd.ntmps5
      go_upto_region 1 with fail
      have HX1 := Lib.hid (bx_new (c := c) HK.out)
      have HBV1 := Lib.hid ((Below.refl w.heap.size w).alloc (Nat.le_refl _) (.cells #[.int .i64 c.id, .string (T c.proto), .int .i64 c.role, .int .i64 c.phase, .int .i64 c.step, (.slice ao m cp), .string (T c.own), .string (T c.peer), .string (T c.user), .int .i64 c.err] 28))
      clear HK
      generalize World.alloc _ _ = V1 at *
      obtain ⟨⟨x0, x1, x2, x3, x4, x5, x6, x7, x8, x9⟩, _⟩ := cv_reads (Bx.row (HX1.out.next (Below.refl _ _)))
      go_wp2_with fail
      (with_reducible refine (HFR.out _ (Bx.att (HX1.out.next (Below.refl _ _)))).mono ?_); rintro e v2 ⟨rfl, hbl⟩
      clear x0 x1 x2 x3 x4 x5 x6 x7 x8 x9
      have HBW3 := Lib.hid (hbl)
      clear hbl
      obtain ⟨⟨x0, x1, x2, x3, x4, x5, x6, x7, x8, x9⟩, _⟩ := cv_reads (Bx.row (HX1.out.next HBW3.out))
      go_wp2_with fail
      (with_reducible refine (HRR.out _ (Bx.att (HX1.out.next HBW3.out))).mono ?_); rintro e v4 ⟨rfl, hbl⟩
      clear x0 x1 x2 x3 x4 x5 x6 x7 x8 x9
      have HBW5 := Lib.hid (hbl)
      clear hbl
      go_wp2_with fail
      (with_reducible refine (HAL.out _ (bnext (bnext HBV1.out HBW3.out) HBW5.out)).mono ?_); rintro e v6 ⟨rfl, hbz⟩
      have HBW7 := Lib.hid (hbz)
      clear hbz
      have HE := Lib.hid (bnext (bnext (bnext HBV1.out HBW3.out) HBW5.out) HBW7.out)
      go_wp2_with fail
      go_ret
      exact ⟨rfl, HE.out⟩
    | true =>
      have hrt := Au.rt_of hri
      rw [hri] at HRR
      clear hri
      have hs3 := hrt.st3
      have hfc := hfn.1
      obtain ⟨A, er, hA⟩ : ∃ A er, Au.write c s = (A, er) := ⟨_, _, rfl⟩
      obtain ⟨B, fr, hB⟩ : ∃ B fr, Au.write c t = (B, fr) := ⟨_, _, rfl⟩
      have HWS := Lib.hid (fun ao m cp (W : World) (h : Atts W (.slice ao m cp) c.key) (hk : KIn W) => write_bx c A s er hA ao m cp W h hfc ⟨hs3.1, by omega⟩ hk (by omega))
      have HWT := Lib.hid (fun ao m cp (W : World) (h : Atts W (.slice ao m cp) c.key) (hk : KIn W) => write_bx c B t fr hB ao m cp W h hfc ⟨hs3.1, by omega⟩ hk (by omega))
      by_cases hbo : er = 0 ∧ fr = 0
      · obtain ⟨rfl, rfl⟩ := hbo
        have f4 : (A.peer == B.peer) = false := seq_no (Au.write_two hA hB hst)
        clear ls lt hfn hst hrt hs3 hfc hA hB
        go_enter Tryd.func5, Tryd.ntmps5
        go_upto_region 1 with fail
        have HX1 := Lib.hid (bx_new (c := c) HK.out)
        have HBV1 := Lib.hid ((Below.refl w.heap.size w).alloc (Nat.le_refl _) (.cells #[.int .i64 c.id, .string (T c.proto), .int .i64 c.role, .int .i64 c.phase, .int .i64 c.step, (.slice ao m cp), .string (T c.own), .string (T c.peer), .string (T c.user), .int .i64 c.err] 28))
        clear HK
        generalize World.alloc _ _ = V1 at *
        obtain ⟨⟨x0, x1, x2, x3, x4, x5, x6, x7, x8, x9⟩, _⟩ := cv_reads (Bx.row (HX1.out.next (Below.refl _ _)))
        go_wp2_with fail
        (with_reducible refine (HFR.out _ (Bx.att (HX1.out.next (Below.refl _ _)))).mono ?_); rintro e v2 ⟨rfl, hbl⟩
        clear x0 x1 x2 x3 x4 x5 x6 x7 x8 x9
        have HBW3 := Lib.hid (hbl)
        clear hbl
        obtain ⟨⟨x0, x1, x2, x3, x4, x5, x6, x7, x8, x9⟩, _⟩ := cv_reads (Bx.row (HX1.out.next HBW3.out))
        go_wp2_with fail
        (with_reducible refine (HRR.out _ (Bx.att (HX1.out.next HBW3.out))).mono ?_); rintro e v4 ⟨rfl, hbl⟩
        clear x0 x1 x2 x3 x4 x5 x6 x7 x8 x9
        have HBW5 := Lib.hid (hbl)
        clear hbl
        obtain ⟨⟨x0, x1, x2, x3, x4, x5, x6, x7, x8, x9⟩, _⟩ := cv_reads (Bx.row (HX1.out.next (bnext HBW3.out HBW5.out)))
        go_wp2_with fail
        (with_reducible refine (HWS.out _ _ _ _ (Bx.att (HX1.out.next (bnext HBW3.out HBW5.out))) (HKI.out _ (bnext (bnext HBV1.out HBW3.out) HBW5.out))).mono ?_); rintro e v6 ⟨a1, a2, a3, rfl, hta, hbl⟩
        clear x0 x1 x2 x3 x4 x5 x6 x7 x8 x9
        have HBW7 := Lib.hid (hbl)
        clear hbl
        have HTA := Lib.hid hta
        clear hta
        go_upto_region 4 with fail
        have HX8 := Lib.hid (bx_new (c := A) HTA.out)
        have HBV8 := Lib.hid ((Below.refl v6.heap.size v6).alloc (Nat.le_refl _) (.cells #[.int .i64 A.id, .string (T A.proto), .int .i64 A.role, .int .i64 A.phase, .int .i64 A.step, (.slice a1 a2 a3), .string (T A.own), .string (T A.peer), .string (T A.user), .int .i64 A.err] 28))
        clear HTA
        generalize World.alloc _ _ = V8 at *
        obtain ⟨⟨x0, x1, x2, x3, x4, x5, x6, x7, x8, x9⟩, _⟩ := cv_reads (Bx.row (HX1.out.next (bnext (bnext (bnext HBW3.out HBW5.out) HBW7.out) HBV8.out)))
        go_wp2_with fail
        (with_reducible refine (HWT.out _ _ _ _ (Bx.att (HX1.out.next (bnext (bnext (bnext HBW3.out HBW5.out) HBW7.out) HBV8.out))) (HKI.out _ (bnext (bnext (bnext (bnext HBV1.out HBW3.out) HBW5.out) HBW7.out) HBV8.out))).mono ?_); rintro e v9 ⟨b1, b2, b3, rfl, hta, hbl⟩
        clear x0 x1 x2 x3 x4 x5 x6 x7 x8 x9
        have HBW10 := Lib.hid (hbl)
        clear hbl
        have HTA := Lib.hid hta
        clear hta
        go_upto_region 5 with fail
        have HX11 := Lib.hid (bx_new (c := B) HTA.out)
        have HBV11 := Lib.hid ((Below.refl v9.heap.size v9).alloc (Nat.le_refl _) (.cells #[.int .i64 B.id, .string (T B.proto), .int .i64 B.role, .int .i64 B.phase, .int .i64 B.step, (.slice b1 b2 b3), .string (T B.own), .string (T B.peer), .string (T B.user), .int .i64 B.err] 28))
        clear HTA
        generalize World.alloc _ _ = V11 at *
        obtain ⟨⟨x0, x1, x2, x3, x4, x5, x6, x7, x8, x9⟩, _⟩ := cv_reads (Bx.row (HX8.out.next (bnext HBW10.out HBV11.out)))
        obtain ⟨⟨y0, y1, y2, y3, y4, y5, y6, y7, y8, y9⟩, _⟩ := cv_reads (Bx.row (HX11.out.next (Below.refl _ _)))
        go_wp2_with fail
        (with_reducible refine (HAL.out _ (bnext (bnext (bnext (bnext (bnext (bnext HBV1.out HBW3.out) HBW5.out) HBW7.out) HBV8.out) HBW10.out) HBV11.out)).mono ?_); rintro e v12 ⟨rfl, hbz⟩
        clear x0 x1 x2 x3 x4 x5 x6 x7 x8 x9 y0 y1 y2 y3 y4 y5 y6 y7 y8 y9
        have HBW13 := Lib.hid (hbz)
        clear hbz
        have HE := Lib.hid (bnext (bnext (bnext (bnext (bnext (bnext (bnext HBV1.out HBW3.out) HBW5.out) HBW7.out) HBV8.out) HBW10.out) HBV11.out) HBW13.out)
        go_wp2_with fail
        go_ret
        exact ⟨rfl, HE.out⟩
      have g1 : (er == 0) = false ∨ ((er == 0) = true ∧ (fr == 0) = false) := by
        by_cases h0 : er = 0
        · exact .inr ⟨by rw [h0]; rfl, by rw [beq_eq_false_iff_ne]; exact fun h => hbo ⟨h0, h⟩⟩
        · exact .inl (by rw [beq_eq_false_iff_ne]; exact h0)
      clear hbo
      by_cases h28 : fr = 28
      rotate_left
      · have f5 : (fr != 28) = true := by rw [bne_iff_ne]; exact h28
        clear ls lt hfn hst hrt hs3 hfc hA hB h28
        rcases g1 with g1 | ⟨g1, g2⟩
        all_goals
          go_enter Tryd.func5, Tryd.ntmps5
          go_upto_region 1 with fail
          have HX1 := Lib.hid (bx_new (c := c) HK.out)
          have HBV1 := Lib.hid ((Below.refl w.heap.size w).alloc (Nat.le_refl _) (.cells #[.int .i64 c.id, .string (T c.proto), .int .i64 c.role, .int .i64 c.phase, .int .i64 c.step, (.slice ao m cp), .string (T c.own), .string (T c.peer), .string (T c.user), .int .i64 c.err] 28))
          clear HK
          generalize World.alloc _ _ = V1 at *
          obtain ⟨⟨x0, x1, x2, x3, x4, x5, x6, x7, x8, x9⟩, _⟩ := cv_reads (Bx.row (HX1.out.next (Below.refl _ _)))
          go_wp2_with fail
          (with_reducible refine (HFR.out _ (Bx.att (HX1.out.next (Below.refl _ _)))).mono ?_); rintro e v2 ⟨rfl, hbl⟩
          clear x0 x1 x2 x3 x4 x5 x6 x7 x8 x9
          have HBW3 := Lib.hid (hbl)
          clear hbl
          obtain ⟨⟨x0, x1, x2, x3, x4, x5, x6, x7, x8, x9⟩, _⟩ := cv_reads (Bx.row (HX1.out.next HBW3.out))
          go_wp2_with fail
          (with_reducible refine (HRR.out _ (Bx.att (HX1.out.next HBW3.out))).mono ?_); rintro e v4 ⟨rfl, hbl⟩
          clear x0 x1 x2 x3 x4 x5 x6 x7 x8 x9
          have HBW5 := Lib.hid (hbl)
          clear hbl
          obtain ⟨⟨x0, x1, x2, x3, x4, x5, x6, x7, x8, x9⟩, _⟩ := cv_reads (Bx.row (HX1.out.next (bnext HBW3.out HBW5.out)))
          go_wp2_with fail
          (with_reducible refine (HWS.out _ _ _ _ (Bx.att (HX1.out.next (bnext HBW3.out HBW5.out))) (HKI.out _ (bnext (bnext HBV1.out HBW3.out) HBW5.out))).mono ?_); rintro e v6 ⟨a1, a2, a3, rfl, hta, hbl⟩
          clear x0 x1 x2 x3 x4 x5 x6 x7 x8 x9
          have HBW7 := Lib.hid (hbl)
          clear hbl
          have HTA := Lib.hid hta
          clear hta
          go_upto_region 4 with fail
          have HX8 := Lib.hid (bx_new (c := A) HTA.out)
          have HBV8 := Lib.hid ((Below.refl v6.heap.size v6).alloc (Nat.le_refl _) (.cells #[.int .i64 A.id, .string (T A.proto), .int .i64 A.role, .int .i64 A.phase, .int .i64 A.step, (.slice a1 a2 a3), .string (T A.own), .string (T A.peer), .string (T A.user), .int .i64 A.err] 28))
          clear HTA
          generalize World.alloc _ _ = V8 at *
          obtain ⟨⟨x0, x1, x2, x3, x4, x5, x6, x7, x8, x9⟩, _⟩ := cv_reads (Bx.row (HX1.out.next (bnext (bnext (bnext HBW3.out HBW5.out) HBW7.out) HBV8.out)))
          go_wp2_with fail
          (with_reducible refine (HWT.out _ _ _ _ (Bx.att (HX1.out.next (bnext (bnext (bnext HBW3.out HBW5.out) HBW7.out) HBV8.out))) (HKI.out _ (bnext (bnext (bnext (bnext HBV1.out HBW3.out) HBW5.out) HBW7.out) HBV8.out))).mono ?_); rintro e v9 ⟨b1, b2, b3, rfl, hta, hbl⟩
          clear x0 x1 x2 x3 x4 x5 x6 x7 x8 x9
          have HBW10 := Lib.hid (hbl)
          clear hbl
          have HTA := Lib.hid hta
          clear hta
          go_upto_region 5 with fail
          have HX11 := Lib.hid (bx_new (c := B) HTA.out)
          have HBV11 := Lib.hid ((Below.refl v9.heap.size v9).alloc (Nat.le_refl _) (.cells #[.int .i64 B.id, .string (T B.proto), .int .i64 B.role, .int .i64 B.phase, .int .i64 B.step, (.slice b1 b2 b3), .string (T B.own), .string (T B.peer), .string (T B.user), .int .i64 B.err] 28))
          clear HTA
          generalize World.alloc _ _ = V11 at *
          go_wp2_with fail
          (with_reducible refine (HAL.out _ (bnext (bnext (bnext (bnext (bnext (bnext HBV1.out HBW3.out) HBW5.out) HBW7.out) HBV8.out) HBW10.out) HBV11.out)).mono ?_); rintro e v12 ⟨rfl, hbz⟩
          have HBW13 := Lib.hid (hbz)
          clear hbz
          have HE := Lib.hid (bnext (bnext (bnext (bnext (bnext (bnext (bnext HBV1.out HBW3.out) HBW5.out) HBW7.out) HBV8.out) HBW10.out) HBV11.out) HBW13.out)
          go_wp2_with fail
          go_ret
          exact ⟨rfl, HE.out⟩
      subst h28
      obtain ⟨p1, p2, hrd, hwr⟩ := Au.write_end hB
      have f6 : (B.phase == 4) = true := by rw [p1]; rfl
      have f7 : (B.err == 28) = true := by rw [p2]; rfl
      have hfb : Fine B := by have := Au.write_fine hfc t; rw [hB] at this; exact this
      have hsb : 0 ≤ B.step ∧ B.step ≤ 3 + 1 := by have := Au.write_step hs3 t; rw [hB] at this; exact this
      have HRB := Lib.hid (fun ao m cp (W : World) (h : Atts W (.slice ao m cp) B.key) (hk : KIn W) => read_bx B B [] 53 hrd ao m cp W h hfb ⟨hsb.1, by omega⟩ hk)
      have HWB := Lib.hid (fun ao m cp (W : World) (h : Atts W (.slice ao m cp) B.key) (hk : KIn W) => write_bx B B s 53 (hwr s) ao m cp W h hfb ⟨hsb.1, by omega⟩ hk (by omega))
      have HSM := Lib.hid (fun v1 v2 (W : World) (h : Atts W v1 B.key) (h2 : Atts W v2 B.key) => same_any B v1 v2 W h h2 (by have := hfb.kl; omega))
      clear ls lt hfn hst hrt hs3 hfc hA hB p1 p2 hrd hwr hfb hsb
      rcases g1 with g1 | ⟨g1, g2⟩
      all_goals
        go_enter Tryd.func5, Tryd.ntmps5
        go_upto_region 1 with fail
        have HX1 := Lib.hid (bx_new (c := c) HK.out)
        have HBV1 := Lib.hid ((Below.refl w.heap.size w).alloc (Nat.le_refl _) (.cells #[.int .i64 c.id, .string (T c.proto), .int .i64 c.role, .int .i64 c.phase, .int .i64 c.step, (.slice ao m cp), .string (T c.own), .string (T c.peer), .string (T c.user), .int .i64 c.err] 28))
        clear HK
        generalize World.alloc _ _ = V1 at *
        obtain ⟨⟨x0, x1, x2, x3, x4, x5, x6, x7, x8, x9⟩, _⟩ := cv_reads (Bx.row (HX1.out.next (Below.refl _ _)))
        go_wp2_with fail
        (with_reducible refine (HFR.out _ (Bx.att (HX1.out.next (Below.refl _ _)))).mono ?_); rintro e v2 ⟨rfl, hbl⟩
        clear x0 x1 x2 x3 x4 x5 x6 x7 x8 x9
        have HBW3 := Lib.hid (hbl)
        clear hbl
        obtain ⟨⟨x0, x1, x2, x3, x4, x5, x6, x7, x8, x9⟩, _⟩ := cv_reads (Bx.row (HX1.out.next HBW3.out))
        go_wp2_with fail
        (with_reducible refine (HRR.out _ (Bx.att (HX1.out.next HBW3.out))).mono ?_); rintro e v4 ⟨rfl, hbl⟩
        clear x0 x1 x2 x3 x4 x5 x6 x7 x8 x9
        have HBW5 := Lib.hid (hbl)
        clear hbl
        obtain ⟨⟨x0, x1, x2, x3, x4, x5, x6, x7, x8, x9⟩, _⟩ := cv_reads (Bx.row (HX1.out.next (bnext HBW3.out HBW5.out)))
        go_wp2_with fail
        (with_reducible refine (HWS.out _ _ _ _ (Bx.att (HX1.out.next (bnext HBW3.out HBW5.out))) (HKI.out _ (bnext (bnext HBV1.out HBW3.out) HBW5.out))).mono ?_); rintro e v6 ⟨a1, a2, a3, rfl, hta, hbl⟩
        clear x0 x1 x2 x3 x4 x5 x6 x7 x8 x9
        have HBW7 := Lib.hid (hbl)
        clear hbl
        have HTA := Lib.hid hta
        clear hta
        go_upto_region 4 with fail
        have HX8 := Lib.hid (bx_new (c := A) HTA.out)
        have HBV8 := Lib.hid ((Below.refl v6.heap.size v6).alloc (Nat.le_refl _) (.cells #[.int .i64 A.id, .string (T A.proto), .int .i64 A.role, .int .i64 A.phase, .int .i64 A.step, (.slice a1 a2 a3), .string (T A.own), .string (T A.peer), .string (T A.user), .int .i64 A.err] 28))
        clear HTA
        generalize World.alloc _ _ = V8 at *
        obtain ⟨⟨x0, x1, x2, x3, x4, x5, x6, x7, x8, x9⟩, _⟩ := cv_reads (Bx.row (HX1.out.next (bnext (bnext (bnext HBW3.out HBW5.out) HBW7.out) HBV8.out)))
        go_wp2_with fail
        (with_reducible refine (HWT.out _ _ _ _ (Bx.att (HX1.out.next (bnext (bnext (bnext HBW3.out HBW5.out) HBW7.out) HBV8.out))) (HKI.out _ (bnext (bnext (bnext (bnext HBV1.out HBW3.out) HBW5.out) HBW7.out) HBV8.out))).mono ?_); rintro e v9 ⟨b1, b2, b3, rfl, hta, hbl⟩
        clear x0 x1 x2 x3 x4 x5 x6 x7 x8 x9
        have HBW10 := Lib.hid (hbl)
        clear hbl
        have HTA := Lib.hid hta
        clear hta
        go_upto_region 5 with fail
        have HX11 := Lib.hid (bx_new (c := B) HTA.out)
        have HBV11 := Lib.hid ((Below.refl v9.heap.size v9).alloc (Nat.le_refl _) (.cells #[.int .i64 B.id, .string (T B.proto), .int .i64 B.role, .int .i64 B.phase, .int .i64 B.step, (.slice b1 b2 b3), .string (T B.own), .string (T B.peer), .string (T B.user), .int .i64 B.err] 28))
        clear HTA
        generalize World.alloc _ _ = V11 at *
        obtain ⟨⟨x0, x1, x2, x3, x4, x5, x6, x7, x8, x9⟩, _⟩ := cv_reads (Bx.row (HX11.out.next (Below.refl _ _)))
        go_wp2_with fail
        (with_reducible refine (HRB.out _ _ _ _ (Bx.att (HX11.out.next (Below.refl _ _))) (HKI.out _ (bnext (bnext (bnext (bnext (bnext (bnext HBV1.out HBW3.out) HBW5.out) HBW7.out) HBV8.out) HBW10.out) HBV11.out))).mono ?_); rintro e v12 ⟨d1, d2, d3, rfl, hta, hbl⟩
        clear x0 x1 x2 x3 x4 x5 x6 x7 x8 x9
        have HBW13 := Lib.hid (hbl)
        clear hbl
        have HTA := Lib.hid hta
        clear hta
        go_upto_region 10 with fail
        have HX14 := Lib.hid (bx_new (c := B) HTA.out)
        have HBV14 := Lib.hid ((Below.refl v12.heap.size v12).alloc (Nat.le_refl _) (.cells #[.int .i64 B.id, .string (T B.proto), .int .i64 B.role, .int .i64 B.phase, .int .i64 B.step, (.slice d1 d2 d3), .string (T B.own), .string (T B.peer), .string (T B.user), .int .i64 B.err] 28))
        clear HTA
        generalize World.alloc _ _ = V14 at *
        obtain ⟨⟨x0, x1, x2, x3, x4, x5, x6, x7, x8, x9⟩, _⟩ := cv_reads (Bx.row (HX11.out.next (bnext HBW13.out HBV14.out)))
        go_wp2_with fail
        (with_reducible refine (HWB.out _ _ _ _ (Bx.att (HX11.out.next (bnext HBW13.out HBV14.out))) (HKI.out _ (bnext (bnext (bnext (bnext (bnext (bnext (bnext (bnext HBV1.out HBW3.out) HBW5.out) HBW7.out) HBV8.out) HBW10.out) HBV11.out) HBW13.out) HBV14.out))).mono ?_); rintro e v15 ⟨q1, q2, q3, rfl, hta, hbl⟩
        clear x0 x1 x2 x3 x4 x5 x6 x7 x8 x9
        have HBW16 := Lib.hid (hbl)
        clear hbl
        have HTA := Lib.hid hta
        clear hta
        go_upto_region 11 with fail
        have HX17 := Lib.hid (bx_new (c := B) HTA.out)
        have HBV17 := Lib.hid ((Below.refl v15.heap.size v15).alloc (Nat.le_refl _) (.cells #[.int .i64 B.id, .string (T B.proto), .int .i64 B.role, .int .i64 B.phase, .int .i64 B.step, (.slice q1 q2 q3), .string (T B.own), .string (T B.peer), .string (T B.user), .int .i64 B.err] 28))
        clear HTA
        generalize World.alloc _ _ = V17 at *
        obtain ⟨⟨x0, x1, x2, x3, x4, x5, x6, x7, x8, x9⟩, _⟩ := cv_reads (Bx.row (HX17.out.next (Below.refl _ _)))
        obtain ⟨⟨y0, y1, y2, y3, y4, y5, y6, y7, y8, y9⟩, _⟩ := cv_reads (Bx.row (HX11.out.next (bnext (bnext (bnext HBW13.out HBV14.out) HBW16.out) HBV17.out)))
        go_wp2_with fail
        (with_reducible refine (HSM.out _ _ _ (Bx.att (HX17.out.next (Below.refl _ _))) (Bx.att (HX11.out.next (bnext (bnext (bnext HBW13.out HBV14.out) HBW16.out) HBV17.out)))).mono ?_); rintro e v18 ⟨rfl, hbl⟩
        clear x0 x1 x2 x3 x4 x5 x6 x7 x8 x9 y0 y1 y2 y3 y4 y5 y6 y7 y8 y9
        have HBW19 := Lib.hid (hbl)
        clear hbl
        go_wp2_with fail
        (with_reducible refine (HAL.out _ (bnext (bnext (bnext (bnext (bnext (bnext (bnext (bnext (bnext (bnext (bnext HBV1.out HBW3.out) HBW5.out) HBW7.out) HBV8.out) HBW10.out) HBV11.out) HBW13.out) HBV14.out) HBW16.out) HBV17.out) HBW19.out)).mono ?_); rintro e v20 ⟨rfl, hbz⟩
        have HBW21 := Lib.hid (hbz)
        clear hbz
        have HE := Lib.hid (bnext (bnext (bnext (bnext (bnext (bnext (bnext (bnext (bnext (bnext (bnext (bnext HBV1.out HBW3.out) HBW5.out) HBW7.out) HBV8.out) HBW10.out) HBV11.out) HBW13.out) HBV14.out) HBW16.out) HBV17.out) HBW19.out) HBW21.out)
        go_wp2_with fail
        go_ret
        exact ⟨rfl, HE.out⟩
end Go.Proofs.YtjjdaelddicokaaDoor
