/- What the product's Same returns: Ns.same?. Conditions: the slices hold the given mounts; at most 10^6 of them, each of at most 10^6 targets. -/
import Derived.Test.YtganenaaglfdnaaMntRSame
set_option linter.unusedVariables false
set_option linter.unusedSimpArgs false
namespace Go.Proofs.Ytganenaaglfdnaa
open Go.RowKit
/-- Two targets are the same, as the closure says. -/
def teq (a b : Tgt) : Bool := Ns.same a.ch b.ch && (a.cr == b.cr)
theorem tcls_any (a b : Tgt) (w : World) :
    Calls Try.prog 47 #[tgv a, tgv b] w fun e w' => e = .returned (.bool (teq a b)) ∧ Below w.heap.size w w' := by
  have HC := Lib.hid (fun w => msame_any a.ch b.ch w)
  have HF := Lib.hid (show teq a b = (Ns.same a.ch b.ch && (a.cr == b.cr)) from rfl)
  unfold chv tgv at *
  cases hs : Ns.same a.ch b.ch
  · rw [hs] at HC HF
    go_enter Try.func47, Try.ntmps47
    go_wp2_with fail
    refine (HC.out _).mono ?_; rintro e w1 ⟨rfl, b1⟩
    have HB1 := Lib.hid (mafter2 b1).2.2
    clear b1
    go_wp2_with fail
    go_ret
    exact ⟨by rw [HF.out]; rfl, HB1.out⟩
  · rw [hs] at HC HF
    go_enter Try.func47, Try.ntmps47
    go_wp2_with fail
    refine (HC.out _).mono ?_; rintro e w1 ⟨rfl, b1⟩
    obtain ⟨hr1, hr2, hb1⟩ := mafter2 b1
    obtain ⟨q0, q1, q2, q3, q4, q5⟩ := mnt_reads hr1
    obtain ⟨z0, z1, z2, z3, z4, z5⟩ := mnt_reads hr2
    have HB1 := Lib.hid hb1
    clear b1 hr1 hr2 hb1
    go_wp2_with fail
    go_ret
    exact ⟨by rw [HF.out]; rfl, HB1.out⟩
set_option maxRecDepth 20000 in
set_option maxHeartbeats 2000000 in
theorem teqf_any (v1 v2 : Value) (a b : List Tgt) (w : World) (h1 : Tgts w v1 a) (h2 : Tgts w v2 b) (hl : a.length ≤ 1000000) (hl2 : b.length ≤ 1000000) :
    Calls Try.prog 46 #[v1, v2, .func (.func 47) #[] #[]] w fun e w' => e = .returned (.bool (Ns.sameU? a b)) ∧ Below w.heap.size w w' := by
  obtain ⟨a1, n1, p1, rfl⟩ := h1.form
  obtain ⟨a2, n2, p2, rfl⟩ := h2.form
  obtain ⟨rfl, k1⟩ := h1.at
  obtain ⟨rfl, k2⟩ := h2.at
  have HB := Lib.hid (Below.refl w.heap.size w)
  have H1 := Lib.hid k1
  have H2 := Lib.hid k2
  clear h1 h2 k1 k2
  by_cases hn : a.length = b.length
  rotate_left
  · have HF := Lib.hid (Ns.sameU_no (fun h => hn h.1))
    have hni : ¬ (a.length : Int) = b.length := by omega
    go_enter Try.func46, Try.ntmps46
    go_wp2_with fail
    go_ret
    exact ⟨by rw [HF.out]; rfl, HB.out⟩
  have hni : (a.length : Int) = b.length := by omega
  have HNN := Lib.hid hn
  have HY := Lib.hid (fun h => Ns.sameU_yes (a := a) (b := b) ⟨hn, h⟩)
  have HNO := Lib.hid (fun h => Ns.sameU_no (a := a) (b := b) h)
  rw [← hn]
  clear hn hni hl2
  go_enter Try.func46, Try.ntmps46
  go_wp2_with fail
  go_loopw [17] (fun i wr => ∃ k : Nat, k ≤ a.length ∧ i = .int .i64 (k : Int) ∧ Hid (∀ j (h : j < a.length) (h2 : j < b.length), j < k → Ns.same a[j].ch b[j].ch = true ∧ a[j].cr = b[j].cr) ∧ Hid (Below w.heap.size w wr)) (fun i _ => a.length - (intOf i).toNat)
  case atStart => exact ⟨0, by omega, rfl, (fun j _ _ hj => by omega), HB.out⟩
  case round =>
    obtain ⟨k, hk, rfl, hn, HBW⟩ := hrel
    by_cases hlt : k < a.length
    · have hlt2 : k < b.length := by have := HNN.out; omega
      obtain ⟨x1, o1, rfl, l1, ca, c5⟩ := H1.out k hlt
      obtain ⟨x2, o2, rfl, l2, da, d5⟩ := H2.out k hlt2
      have hki : (k : Int) < a.length := by omega
      have hb := HBW.out
      obtain ⟨c0, c1, c2, c3, c4⟩ := ca.below (w' := wr) ⟨hb.os, hb.tape, hb.output, hb.size, hb.block⟩ l1
      obtain ⟨d0, d1, d2, d3, d4⟩ := da.below (w' := wr) ⟨hb.os, hb.tape, hb.output, hb.size, hb.block⟩ l2
      rw [← hb.cell (p := ⟨x1, o1 + k * 6 + 5, none⟩) l1] at c5
      rw [← hb.cell (p := ⟨x2, o2 + k * 6 + 5, none⟩) l2] at d5
      have m1 : x1 < wr.heap.size := Nat.lt_of_lt_of_le l1 hb.size
      have m2 : x2 < wr.heap.size := Nat.lt_of_lt_of_le l2 hb.size
      have HCL := Lib.hid (fun W => tcls_any a[k] b[k] W)
      unfold tgv at HCL
      clear hb ca da
      cases hs : teq a[k] b[k]
      · have HF := Lib.hid (HNO.out (fun h => by
          obtain ⟨e1, e2⟩ := h.2 k hlt hlt2
          unfold teq at hs; rw [e1, e2] at hs; simp at hs))
        rw [hs] at HCL
        go_wp2_with fail
        refine (HCL.out _).mono ?_; rintro e w1 ⟨rfl, b1⟩
        have HB1 := Lib.hid (bnext HBW.out (mafter2 b1).2.2)
        clear b1
        go_wp2_with fail
        go_ret
        exact ⟨by rw [HF.out]; rfl, HB1.out⟩
      · have HS : Hid (∀ j (h : j < a.length) (h2 : j < b.length), j < k + 1 → Ns.same a[j].ch b[j].ch = true ∧ a[j].cr = b[j].cr) := fun j h h2 hj => by
          rcases Nat.lt_or_ge j k with h' | h'
          · exact hn.out j h h2 h'
          · obtain rfl : j = k := by omega
            unfold teq at hs; simpa using hs
        rw [hs] at HCL
        go_wp2_with fail
        refine (HCL.out _).mono ?_; rintro e w1 ⟨rfl, b1⟩
        have HB1 := Lib.hid (bnext HBW.out (mafter2 b1).2.2)
        clear b1
        go_wp2_with fail
        go_roundw
        case rel => exact ⟨k + 1, by omega, by go_num, HS, HB1⟩
        case measure => simp [intOf]; omega
    · obtain rfl : k = a.length := by omega
      have HF := Lib.hid (HY.out (fun j h h2 => hn.out j h h2 h))
      go_wp2_with fail
      go_ret
      exact ⟨by rw [HF.out]; rfl, HBW.out⟩
open Classical in
/-- Two mounts are the same, as the closure says. -/
noncomputable def meq (a b : Mnt) : Bool := Ns.same a.fr b.fr && Ns.sameU? a.to b.to
theorem mcls_any (a b : Mnt) (va vb : Value) (w : World) (h1 : Tgts w va a.to) (h2 : Tgts w vb b.to) (hl : a.to.length ≤ 1000000) (hl2 : b.to.length ≤ 1000000) :
    Calls Try.prog 45 #[mnv a va, mnv b vb] w fun e w' => e = .returned (.bool (meq a b)) ∧ Below w.heap.size w w' := by
  obtain ⟨aa, an, ac, rfl⟩ := h1.form
  obtain ⟨ba, bn, bc, rfl⟩ := h2.form
  have HC := Lib.hid (fun w => msame_any a.fr b.fr w)
  have HU := Lib.hid (fun W (h : Below w.heap.size w W) => teqf_any (.slice aa an ac) (.slice ba bn bc) a.to b.to W (h1.below h) (h2.below h) hl hl2)
  have HF := Lib.hid (show meq a b = (Ns.same a.fr b.fr && Ns.sameU? a.to b.to) from rfl)
  clear h1 h2
  unfold chv mnv at *
  cases hs : Ns.same a.fr b.fr
  · rw [hs] at HC HF
    go_enter Try.func45, Try.ntmps45
    go_wp2_with fail
    refine (HC.out _).mono ?_; rintro e w1 ⟨rfl, b1⟩
    have HB1 := Lib.hid (mafter2 b1).2.2
    clear b1
    go_wp2_with fail
    go_ret
    exact ⟨by rw [HF.out]; rfl, HB1.out⟩
  · rw [hs] at HC HF
    go_enter Try.func45, Try.ntmps45
    go_wp2_with fail
    refine (HC.out _).mono ?_; rintro e w1 ⟨rfl, b1⟩
    obtain ⟨hr1, hr2, hb1⟩ := mafter2 b1
    obtain ⟨q0, q1, q2, q3, q4, q5⟩ := mnt_reads hr1
    obtain ⟨z0, z1, z2, z3, z4, z5⟩ := mnt_reads hr2
    have HB1 := Lib.hid hb1
    clear b1 hr1 hr2 hb1
    go_wp2_with fail
    refine (HU.out _ HB1.out).mono ?_; rintro e w2 ⟨rfl, b2⟩
    have HB2 := Lib.hid (bnext HB1.out b2)
    clear b2
    go_wp2_with fail
    go_ret
    exact ⟨by rw [HF.out]; rfl, HB2.out⟩
set_option maxRecDepth 20000 in
set_option maxHeartbeats 2000000 in
/-- EqualFunc of two lists of mounts. -/
theorem meqf_any (v1 v2 : Value) (a b : List Mnt) (w : World) (h1 : Mnts w v1 a) (h2 : Mnts w v2 b) (hl : a.length ≤ 1000000) (hl2 : b.length ≤ 1000000) (hu : ∀ m ∈ a, m.to.length ≤ 1000000) (hu2 : ∀ m ∈ b, m.to.length ≤ 1000000) :
    Calls Try.prog 44 #[v1, v2, .func (.func 45) #[] #[]] w fun e w' => ∃ x, e = .returned (.bool x) ∧ (∀ r1 r2, Ns.same r1 r2 = true → x = Ns.same? r1 a r2 b) ∧ Below w.heap.size w w' := by
  obtain ⟨a1, n1, p1, rfl⟩ := h1.form
  obtain ⟨a2, n2, p2, rfl⟩ := h2.form
  obtain ⟨rfl, k1⟩ := h1.at
  obtain ⟨rfl, k2⟩ := h2.at
  have HB := Lib.hid (Below.refl w.heap.size w)
  have H1 := Lib.hid k1
  have H2 := Lib.hid k2
  have HU1 := Lib.hid hu
  have HU2 := Lib.hid hu2
  clear h1 h2 k1 k2 hu hu2
  by_cases hn : a.length = b.length
  rotate_left
  · have HF := Lib.hid (fun (r1 r2 : Chn) => Ns.same_no (r1 := r1) (r2 := r2) (a := a) (b := b) (fun h => hn h.2.1))
    have hni : ¬ (a.length : Int) = b.length := by omega
    go_enter Try.func44, Try.ntmps44
    go_wp2_with fail
    go_ret
    exact ⟨_, rfl, fun r1 r2 _ => (HF.out r1 r2).symm, HB.out⟩
  have hni : (a.length : Int) = b.length := by omega
  have HNN := Lib.hid hn
  have HY := Lib.hid (fun (r1 r2 : Chn) hs h => Ns.same_yes (r1 := r1) (r2 := r2) (a := a) (b := b) ⟨hs, hn, h⟩)
  have HNO := Lib.hid (fun (r1 r2 : Chn) h => Ns.same_no (r1 := r1) (r2 := r2) (a := a) (b := b) h)
  rw [← hn]
  clear hn hni hl2
  go_enter Try.func44, Try.ntmps44
  go_wp2_with fail
  go_loopw [17] (fun i wr => ∃ k : Nat, k ≤ a.length ∧ i = .int .i64 (k : Int) ∧ Hid (∀ j (h : j < a.length) (h2 : j < b.length), j < k → Ns.same a[j].fr b[j].fr = true ∧ Ns.sameU a[j].to b[j].to) ∧ Hid (Below w.heap.size w wr)) (fun i _ => a.length - (intOf i).toNat)
  case atStart => exact ⟨0, by omega, rfl, (fun j _ _ hj => by omega), HB.out⟩
  case round =>
    obtain ⟨k, hk, rfl, hn, HBW⟩ := hrel
    by_cases hlt : k < a.length
    · have hlt2 : k < b.length := by have := HNN.out; omega
      obtain ⟨x1, o1, rfl, l1, ca, t1, c5, ct1⟩ := H1.out k hlt
      obtain ⟨x2, o2, rfl, l2, da, t2, d5, ct2⟩ := H2.out k hlt2
      obtain ⟨ta1, tn1, tc1, rfl⟩ := ct1.form
      obtain ⟨ta2, tn2, tc2, rfl⟩ := ct2.form
      have hki : (k : Int) < a.length := by omega
      have hb := HBW.out
      obtain ⟨c0, c1, c2, c3, c4⟩ := ca.below (w' := wr) ⟨hb.os, hb.tape, hb.output, hb.size, hb.block⟩ l1
      obtain ⟨d0, d1, d2, d3, d4⟩ := da.below (w' := wr) ⟨hb.os, hb.tape, hb.output, hb.size, hb.block⟩ l2
      rw [← hb.cell (p := ⟨x1, o1 + k * 6 + 5, none⟩) l1] at c5
      rw [← hb.cell (p := ⟨x2, o2 + k * 6 + 5, none⟩) l2] at d5
      have m1 : x1 < wr.heap.size := Nat.lt_of_lt_of_le l1 hb.size
      have m2 : x2 < wr.heap.size := Nat.lt_of_lt_of_le l2 hb.size
      have HCL := Lib.hid (fun W (h : Below w.heap.size w W) => mcls_any a[k] b[k] (.slice ta1 tn1 tc1) (.slice ta2 tn2 tc2) W (ct1.below h) (ct2.below h) (HU1.out _ (List.getElem_mem hlt)) (HU2.out _ (List.getElem_mem hlt2)))
      unfold mnv at HCL
      clear hb ca da
      cases hs : meq a[k] b[k]
      · have HF := Lib.hid (fun r1 r2 => HNO.out r1 r2 (fun h => by
          obtain ⟨e1, e2⟩ := h.2.2 k hlt hlt2
          unfold meq at hs; rw [e1, Ns.sameU_yes e2] at hs; cases hs))
        rw [hs] at HCL
        go_wp2_with fail
        refine (HCL.out _ (((HBW.out.alloc HBW.out.size _).alloc (by have := HBW.out.size; simp; omega) _))).mono ?_; rintro e w1 ⟨rfl, b1⟩
        have HB1 := Lib.hid (bnext HBW.out (mafter2 b1).2.2)
        clear b1
        go_wp2_with fail
        go_ret
        exact ⟨_, rfl, fun r1 r2 _ => (HF.out r1 r2).symm, HB1.out⟩
      · have HS : Hid (∀ j (h : j < a.length) (h2 : j < b.length), j < k + 1 → Ns.same a[j].fr b[j].fr = true ∧ Ns.sameU a[j].to b[j].to) := fun j h h2 hj => by
          rcases Nat.lt_or_ge j k with h' | h'
          · exact hn.out j h h2 h'
          · obtain rfl : j = k := by omega
            unfold meq at hs
            rw [Bool.and_eq_true] at hs
            exact ⟨hs.1, Ns.sameU_of hs.2⟩
        rw [hs] at HCL
        go_wp2_with fail
        refine (HCL.out _ (((HBW.out.alloc HBW.out.size _).alloc (by have := HBW.out.size; simp; omega) _))).mono ?_; rintro e w1 ⟨rfl, b1⟩
        have HB1 := Lib.hid (bnext HBW.out (mafter2 b1).2.2)
        clear b1
        go_wp2_with fail
        go_roundw
        case rel => exact ⟨k + 1, by omega, by go_num, HS, HB1⟩
        case measure => simp [intOf]; omega
    · obtain rfl : k = a.length := by omega
      have HF := Lib.hid (fun r1 r2 hs => HY.out r1 r2 hs (fun j h h2 => hn.out j h h2 h))
      go_wp2_with fail
      go_ret
      exact ⟨_, rfl, fun r1 r2 hs => (HF.out r1 r2 hs).symm, HBW.out⟩
set_option maxHeartbeats 1000000 in
theorem msamens_any (i1 : Int) (r1 : Chn) (v1 : Value) (m1 : List Mnt) (i2 : Int) (r2 : Chn) (v2 : Value) (m2 : List Mnt) (w : World) (h1 : Mnts w v1 m1) (h2 : Mnts w v2 m2) (hl : m1.length ≤ 1000000) (hl2 : m2.length ≤ 1000000) (hu : ∀ m ∈ m1, m.to.length ≤ 1000000) (hu2 : ∀ m ∈ m2, m.to.length ≤ 1000000) :
    Calls Try.prog 26 #[nsv i1 r1 v1, nsv i2 r2 v2] w fun e w' => e = .returned (.bool (Ns.same? r1 m1 r2 m2)) ∧ Below w.heap.size w w' := by
  obtain ⟨a1, n1, p1, rfl⟩ := h1.form
  obtain ⟨a2, n2, p2, rfl⟩ := h2.form
  have HC := Lib.hid (fun w => msame_any r1 r2 w)
  have HU := Lib.hid (fun W (h : Below w.heap.size w W) => meqf_any (.slice a1 n1 p1) (.slice a2 n2 p2) m1 m2 W (h1.below h) (h2.below h) hl hl2 hu hu2)
  clear h1 h2
  unfold chv nsv at *
  cases hs : Ns.same r1 r2
  · have HF := Lib.hid (Ns.same_no (r1 := r1) (r2 := r2) (a := m1) (b := m2) (fun h => by rw [h.1] at hs; cases hs))
    rw [hs] at HC
    go_enter Try.func26, Try.ntmps26
    go_wp2_with fail
    refine (HC.out _).mono ?_; rintro e w1 ⟨rfl, b1⟩
    have HB1 := Lib.hid (mafter2 b1).2.2
    clear b1
    go_wp2_with fail
    go_ret
    exact ⟨by rw [HF.out]; rfl, HB1.out⟩
  · rw [hs] at HC
    go_enter Try.func26, Try.ntmps26
    go_wp2_with fail
    refine (HC.out _).mono ?_; rintro e w1 ⟨rfl, b1⟩
    obtain ⟨hr1, hr2, hb1⟩ := mafter2 b1
    obtain ⟨⟨q0, q1, q2, q3, q4, q5, q6⟩, _⟩ := ns_reads hr1
    obtain ⟨⟨z0, z1, z2, z3, z4, z5, z6⟩, _⟩ := ns_reads hr2
    have HB1 := Lib.hid hb1
    clear b1 hr1 hr2 hb1
    go_wp2_with fail
    refine (HU.out _ HB1.out).mono ?_; rintro e w2 ⟨x, rfl, hx, b2⟩
    have HB2 := Lib.hid (bnext HB1.out b2)
    have HX := Lib.hid (hx r1 r2 hs)
    clear b2 hx
    go_wp2_with fail
    go_ret
    exact ⟨by rw [← HX.out]; rfl, HB2.out⟩
end Go.Proofs.Ytganenaaglfdnaa
