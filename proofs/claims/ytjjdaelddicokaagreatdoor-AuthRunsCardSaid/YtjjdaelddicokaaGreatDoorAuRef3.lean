/- What the reference's Same returns for conversations with the same fields, and the laws' small and fair. Conditions: keys and texts of at most 1000. -/
import Derived.Test.YtjjdaelddicokaaGreatDoorAuRef2
set_option linter.unusedVariables false
set_option linter.unusedSimpArgs false
namespace Go.Proofs.YtjjdaelddicokaaGreatDoor
open Go.RowKit
open Au (Att Cnv)
set_option maxRecDepth 20000 in
set_option maxHeartbeats 4000000 in
theorem same_any (c : Cnv) (v1 v2 : Value) (w : World) (h1 : Atts w v1 c.key) (h2 : Atts w v2 c.key) (hl : c.key.length ≤ 1000000) :
    Calls Tryz.prog 10 #[.agg #[.int .i64 c.id, .string (T c.proto), .int .i64 c.role, .int .i64 c.phase, .int .i64 c.step, v1, .string (T c.own), .string (T c.peer), .string (T c.user), .int .i64 c.err], .agg #[.int .i64 c.id, .string (T c.proto), .int .i64 c.role, .int .i64 c.phase, .int .i64 c.step, v2, .string (T c.own), .string (T c.peer), .string (T c.user), .int .i64 c.err]] w fun e w' => e = .returned (.bool true) ∧ Below w.heap.size w w' := by
  obtain ⟨a1, n1, p1, rfl⟩ := h1.form
  obtain ⟨a2, n2, p2, rfl⟩ := h2.form
  obtain ⟨rfl, k1⟩ := h1.at
  obtain ⟨rfl, k2⟩ := h2.at
  have H1 := Lib.hid k1
  have H2 := Lib.hid k2
  have HRW := Lib.hid (two_rows w (.cells #[.int .i64 c.id, .string (T c.proto), .int .i64 c.role, .int .i64 c.phase, .int .i64 c.step, (.slice a1 c.key.length p1), .string (T c.own), .string (T c.peer), .string (T c.user), .int .i64 c.err] 25) (.cells #[.int .i64 c.id, .string (T c.proto), .int .i64 c.role, .int .i64 c.phase, .int .i64 c.step, (.slice a2 c.key.length p2), .string (T c.own), .string (T c.peer), .string (T c.user), .int .i64 c.err] 25))
  have HB0 := Lib.hid ((((Below.refl w.heap.size w).alloc (Nat.le_refl _) (.cells #[.int .i64 c.id, .string (T c.proto), .int .i64 c.role, .int .i64 c.phase, .int .i64 c.step, (.slice a1 c.key.length p1), .string (T c.own), .string (T c.peer), .string (T c.user), .int .i64 c.err] 25)).alloc (by simp) (.cells #[.int .i64 c.id, .string (T c.proto), .int .i64 c.role, .int .i64 c.phase, .int .i64 c.step, (.slice a2 c.key.length p2), .string (T c.own), .string (T c.peer), .string (T c.user), .int .i64 c.err] 25)))
  clear h1 h2 k1 k2
  obtain ⟨⟨x0, x1, x2, x3, x4, x5, x6, x7, x8, x9⟩, _⟩ := cv_readsZ HRW.out.1
  obtain ⟨⟨z0, z1, z2, z3, z4, z5, z6, z7, z8, z9⟩, _⟩ := cv_readsZ HRW.out.2
  go_enter Tryz.func10, Tryz.ntmps10
  go_wp2_with fail
  generalize (w.alloc _).alloc _ = W0 at *
  clear x0 x1 x2 x3 x4 x5 x6 x7 x8 x9 z0 z1 z2 z3 z4 z5 z6 z7 z8 z9
  go_loopw [16] (fun i wr => ∃ k : Nat, k ≤ c.key.length ∧ i = .int .i64 (k : Int) ∧ Hid (Below W0.heap.size W0 wr)) (fun i _ => c.key.length - (intOf i).toNat)
  case atStart => exact ⟨0, by omega, rfl, Lib.hid (Below.refl _ _)⟩
  case round =>
    obtain ⟨k, hk, rfl, HB⟩ := hrel
    obtain ⟨⟨x0, x1, x2, x3, x4, x5, x6, x7, x8, x9⟩, _⟩ := cv_readsZ ((HB.out.block _ (row_ltA HRW.out.1)).trans HRW.out.1)
    obtain ⟨⟨z0, z1, z2, z3, z4, z5, z6, z7, z8, z9⟩, _⟩ := cv_readsZ ((HB.out.block _ (row_ltA HRW.out.2)).trans HRW.out.2)
    have HBW := Lib.hid (bnext HB0.out HB.out)
    by_cases hlt : k < c.key.length
    · obtain ⟨b1, o1, rfl, l1, ca⟩ := H1.out k hlt
      obtain ⟨b2, o2, rfl, l2, da⟩ := H2.out k hlt
      have hki : (k : Int) < c.key.length := by omega
      obtain ⟨c0, c1, c2⟩ := ca.below HBW.out l1
      obtain ⟨d0, d1, d2⟩ := da.below HBW.out l2
      clear ca da
      go_wp2_with fail
      go_quiet (fail)
      go_wp2_with fail
      go_roundw
      case rel => exact ⟨k + 1, by omega, by go_num, Lib.hid (below_drewN HB.out _)⟩
      case measure => simp [intOf]; omega
    · obtain rfl : k = c.key.length := by omega
      go_wp2_with fail
      go_ret
      exact ⟨rfl, HBW.out⟩
namespace Au
def briefA (a : Att) : Bool := decide (a.name.length ≤ 200) && decide (a.value.length ≤ 200)
def small (l : List Att) : Bool := decide (l.length ≤ 40) && l.all briefA
def fair (c : Cnv) : Bool := small c.key && decide (c.own.length ≤ 100) && decide (c.peer.length ≤ 100) && decide (c.user.length ≤ 200) && decide (c.proto.length ≤ 200)
theorem small_long {l : List Att} (h : ¬ l.length ≤ 40) : small l = false := by unfold small; rw [decide_eq_false h]; rfl
theorem small_no {l : List Att} {k : Nat} (h : k < l.length) (hn : briefA l[k] = false) : small l = false := by
  have : l.all briefA = false := by rw [List.all_eq_false]; exact ⟨l[k], List.getElem_mem h, by simp [hn]⟩
  unfold small; rw [this, Bool.and_false]
theorem small_yes {l : List Att} (h : l.length ≤ 40) (ha : ∀ j (hj : j < l.length), briefA l[j] = true) : small l = true := by
  have : l.all briefA = true := by
    rw [List.all_eq_true]
    intro a ha'
    obtain ⟨j, hj, rfl⟩ := List.getElem_of_mem ha'
    exact ha j hj
  unfold small; rw [this, decide_eq_true h]; rfl
end Au
set_option maxHeartbeats 2000000 in
theorem small_any (v : Value) (l : List Att) (w : World) (hv : Atts w v l) :
    Calls Tryz.prog 18 #[v] w fun e w' => e = .returned (.bool (Au.small l)) ∧ w = w' := by
  obtain ⟨ao, cap, rfl, hc, hn, hcell⟩ := hv
  have HC := Lib.hid hcell
  clear hcell hn
  by_cases h40 : l.length ≤ 40
  rotate_left
  · have HF := Lib.hid (Au.small_long h40)
    have k1 : (40 : Int) < l.length := by omega
    clear h40
    go_enter Tryz.func18, Tryz.ntmps18
    go_wp2_with fail
    go_ret
    exact ⟨by rw [HF.out]; rfl, rfl⟩
  have k1 : decide ((40 : Int) < l.length) = false := decide_eq_false (by omega)
  have HN := Lib.hid (fun k h hn => Au.small_no (l := l) (k := k) h hn)
  have HY := Lib.hid (fun h => Au.small_yes (l := l) h40 h)
  go_enter Tryz.func18, Tryz.ntmps18
  go_wp2_with fail
  go_loop [9] (fun i => ∃ k : Nat, k ≤ l.length ∧ i = .int .i64 (k : Int) ∧ Hid (∀ j (hj : j < k) (hk : k ≤ l.length), Au.briefA (l[j]'(by omega)) = true)) (fun i => l.length - (intOf i).toNat)
  case atStart => exact ⟨0, by omega, rfl, (fun j hj => by omega)⟩
  case round =>
    obtain ⟨k, hk, rfl, hn⟩ := hrel
    by_cases hlt : k < l.length
    · obtain ⟨b, off, rfl, hbl, cc⟩ := HC.out k hlt
      have hki : (k : Int) < l.length := by omega
      have HNK := Lib.hid (fun h => HN.out k hlt h)
      have HNX := Lib.hid (show Au.briefA l[k] = true → ∀ j (hj : j < k + 1) (hk : k + 1 ≤ l.length), Au.briefA (l[j]'(by omega)) = true from fun he j hj hk' => by
        rcases Nat.lt_or_ge j k with h | h
        · exact hn.out j h (by omega)
        · obtain rfl : j = k := by omega
          exact he)
      have hbe : Au.briefA l[k] = (decide (l[k].name.length ≤ 200) && decide (l[k].value.length ≤ 200)) := rfl
      rw [hbe] at HNK HNX
      clear hbe
      obtain ⟨d0, d1, d2⟩ := cc
      generalize l[k].name = nm at *
      generalize l[k].value = va at *
      by_cases hn2 : nm.length ≤ 200
      rotate_left
      · have HF := Lib.hid (HNK.out (by rw [decide_eq_false hn2]; rfl))
        have k2 : (200 : Int) < nm.length := by omega
        clear HNK HNX hn2
        go_wp2_with fail
        go_ret
        exact ⟨by rw [HF.out]; rfl, rfl⟩
      have k2 : decide ((200 : Int) < nm.length) = false := decide_eq_false (by omega)
      by_cases hv2 : va.length ≤ 200
      rotate_left
      · have HF := Lib.hid (HNK.out (by rw [decide_eq_false hv2, Bool.and_false]))
        have k3 : (200 : Int) < va.length := by omega
        clear HNK HNX hn2 hv2
        go_wp2_with fail
        go_ret
        exact ⟨by rw [HF.out]; rfl, rfl⟩
      · have HF := Lib.hid (HNX.out (by rw [decide_eq_true hn2, decide_eq_true hv2]; rfl))
        have k3 : decide ((200 : Int) < va.length) = false := decide_eq_false (by omega)
        clear HNK HNX hn2 hv2
        go_wp2_with fail
        go_round
        case rel => exact ⟨k + 1, by omega, by go_num, HF⟩
        case measure => simp [intOf]; omega
    · obtain rfl : k = l.length := by omega
      have HF := Lib.hid (HY.out (fun j hj => hn.out j hj (Nat.le_refl _)))
      go_wp2_with fail
      go_ret
      exact ⟨by rw [HF.out]; rfl, rfl⟩
set_option maxHeartbeats 2000000 in
theorem fair_any (c : Cnv) (kv : Value) (w : World) (hk : Atts w kv c.key) :
    Calls Tryz.prog 5 #[.agg #[.int .i64 c.id, .string (T c.proto), .int .i64 c.role, .int .i64 c.phase, .int .i64 c.step, kv, .string (T c.own), .string (T c.peer), .string (T c.user), .int .i64 c.err]] w fun e w' => e = .returned (.bool (Au.fair c)) ∧ Below w.heap.size w w' := by
  obtain ⟨ao, m, cp, rfl⟩ := hk.form
  have HB1 := Lib.hid ((Below.refl w.heap.size w).alloc (Nat.le_refl _) (.cells #[.int .i64 c.id, .string (T c.proto), .int .i64 c.role, .int .i64 c.phase, .int .i64 c.step, (.slice ao m cp), .string (T c.own), .string (T c.peer), .string (T c.user), .int .i64 c.err] 25))
  have HSM := Lib.hid (small_any (.slice ao m cp) c.key (w.alloc (.cells #[.int .i64 c.id, .string (T c.proto), .int .i64 c.role, .int .i64 c.phase, .int .i64 c.step, (.slice ao m cp), .string (T c.own), .string (T c.peer), .string (T c.user), .int .i64 c.err] 25)) (hk.below HB1.out))
  have HE := Lib.hid (show Au.fair c = (Au.small c.key && decide (c.own.length ≤ 100) && decide (c.peer.length ≤ 100) && decide (c.user.length ≤ 200) && decide (c.proto.length ≤ 200)) from rfl)
  obtain ⟨⟨x0, x1, x2, x3, x4, x5, x6, x7, x8, x9⟩, _⟩ := cv_readsZ (heap_alloc_new w (.cells #[.int .i64 c.id, .string (T c.proto), .int .i64 c.role, .int .i64 c.phase, .int .i64 c.step, (.slice ao m cp), .string (T c.own), .string (T c.peer), .string (T c.user), .int .i64 c.err] 25))
  clear hk
  generalize Au.small c.key = sm at *
  go_enter Tryz.func5, Tryz.ntmps5
  go_wp2_with fail
  (with_reducible refine HSM.out.mono ?_); rintro e w1 ⟨rfl, rfl⟩
  cases sm
  · have HF := Lib.hid (show Au.fair c = false from by rw [HE.out]; rfl)
    go_wp2_with fail
    go_ret
    exact ⟨by rw [HF.out]; rfl, HB1.out⟩
  by_cases no : c.own.length ≤ 100
  rotate_left
  · have HF := Lib.hid (show Au.fair c = false from by rw [HE.out, decide_eq_false no]; simp)
    have ko : decide ((c.own.length : Int) ≤ 100) = false := decide_eq_false (by omega)
    clear no
    go_wp2_with fail
    go_ret
    exact ⟨by rw [HF.out]; rfl, HB1.out⟩
  have ko : ((c.own.length : Int) ≤ 100) := by omega
  by_cases np : c.peer.length ≤ 100
  rotate_left
  · have HF := Lib.hid (show Au.fair c = false from by rw [HE.out, decide_eq_false np]; simp)
    have kp : decide ((c.peer.length : Int) ≤ 100) = false := decide_eq_false (by omega)
    clear np
    go_wp2_with fail
    go_ret
    exact ⟨by rw [HF.out]; rfl, HB1.out⟩
  have kp : ((c.peer.length : Int) ≤ 100) := by omega
  by_cases nu : c.user.length ≤ 200
  rotate_left
  · have HF := Lib.hid (show Au.fair c = false from by rw [HE.out, decide_eq_false nu]; simp)
    have ku : decide ((c.user.length : Int) ≤ 200) = false := decide_eq_false (by omega)
    clear nu
    go_wp2_with fail
    go_ret
    exact ⟨by rw [HF.out]; rfl, HB1.out⟩
  have ku : ((c.user.length : Int) ≤ 200) := by omega
  by_cases nq : c.proto.length ≤ 200
  rotate_left
  · have HF := Lib.hid (show Au.fair c = false from by rw [HE.out, decide_eq_false nq]; simp)
    have kq : decide ((c.proto.length : Int) ≤ 200) = false := decide_eq_false (by omega)
    clear nq
    go_wp2_with fail
    go_ret
    exact ⟨by rw [HF.out]; rfl, HB1.out⟩
  have kq : ((c.proto.length : Int) ≤ 200) := by omega
  have HF := Lib.hid (show Au.fair c = true from by rw [HE.out, decide_eq_true no, decide_eq_true np, decide_eq_true nu, decide_eq_true nq]; rfl)
  clear no np nu nq
  go_wp2_with fail
  go_ret
  exact ⟨by rw [HF.out]; rfl, HB1.out⟩
end Go.Proofs.YtjjdaelddicokaaGreatDoor
