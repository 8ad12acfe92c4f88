/- What auth.Done, knows and Read return. Conditions: keys and texts of at most 1000; at most 10^6 steps. -/
import Derived.Test.YtjjdaelddicokaaGreatDoorAuSet
import Derived.Deep.RegionHeldLaw
set_option linter.unusedVariables false
set_option linter.unusedSimpArgs false
namespace Go.Proofs.YtjjdaelddicokaaGreatDoor
open Go.RowKit
open Au (Att Cnv)

theorem done_any (c : Cnv) (ao : Option Addr) (m cp : Nat) (w : World) :
    Calls Tryz.prog 14 #[.agg #[.int .i64 c.id, .string (T c.proto), .int .i64 c.role, .int .i64 c.phase, .int .i64 c.step, (.slice ao m cp), .string (T c.own), .string (T c.peer), .string (T c.user), .int .i64 c.err]] w fun e w' => e = .returned (.tuple #[.string (T (Au.done c).1), .bool (Au.done c).2]) ∧ Below w.heap.size w w' := by
  have HB := Lib.hid (fun (o : Obj) => (Below.refl w.heap.size w).alloc (Nat.le_refl _) o)
  by_cases h : c.phase = 3
  · have HF := Lib.hid (show Au.done c = (c.user, true) from by unfold Au.done; rw [if_pos h])
    have e1 : (c.phase != 3) = false := by rw [h]; rfl
    clear h
    go_enter Tryz.func14, Tryz.ntmps14
    go_wp2_with fail
    go_ret2
    exact ⟨by rw [HF.out]; rfl, HB.out _⟩
  · have HF := Lib.hid (show Au.done c = ([], false) from by unfold Au.done; rw [if_neg h])
    have e1 : (c.phase != 3) = true := by simpa using h
    clear h
    go_enter Tryz.func14, Tryz.ntmps14
    go_wp2_with fail
    go_ret2
    exact ⟨by rw [HF.out]; rfl, HB.out _⟩
namespace Au
theorem knows_yes {c : Cnv} {k : Nat} (h : (k : Int) < c.step) (h1 : 0 ≤ carries c k) (h2 : sends c.proto c.role k = false) : knows c = true := by
  unfold knows
  rw [List.any_eq_true]
  exact ⟨k, List.mem_range.2 (by omega), by simp [h1, h2]⟩
theorem knows_no {c : Cnv} (h : ∀ j : Nat, (j : Int) < c.step → ¬ (0 ≤ carries c j ∧ sends c.proto c.role j = false)) : knows c = false := by
  unfold knows
  rw [List.any_eq_false]
  intro j hj
  have := h j (by have := List.mem_range.1 hj; omega)
  simp only [Bool.and_eq_true, decide_eq_true_eq, Bool.not_eq_true']
  exact this
end Au
set_option maxRecDepth 20000 in
set_option maxHeartbeats 4000000 in
theorem knows_any (c : Cnv) (ao : Option Addr) (m cp : Nat) (w : World) (hk : Atts w (.slice ao m cp) c.key) (hf : Fine c) (hst : c.step ≤ 1000000) :
    Calls Tryz.prog 36 #[.agg #[.int .i64 c.id, .string (T c.proto), .int .i64 c.role, .int .i64 c.phase, .int .i64 c.step, (.slice ao m cp), .string (T c.own), .string (T c.peer), .string (T c.user), .int .i64 c.err]] w fun e w' => e = .returned (.bool (Au.knows c)) ∧ Below w.heap.size w w' := by
  have HCA := Lib.hid (fun (n : Int) (W : World) (hb : Below w.heap.size w W) => carries_any c ao m cp n W (hk.below hb) hf)
  have HSN := Lib.hid (fun (n : Int) (W : World) => sends_any c.proto c.role n W)
  have HY := Lib.hid (fun (k : Nat) => Au.knows_yes (c := c) (k := k))
  have HN := Lib.hid (Au.knows_no (c := c))
  have HW := Lib.hid (heap_alloc_new w (.cells #[.int .i64 c.id, .string (T c.proto), .int .i64 c.role, .int .i64 c.phase, .int .i64 c.step, (.slice ao m cp), .string (T c.own), .string (T c.peer), .string (T c.user), .int .i64 c.err] 25))
  have HB := Lib.hid ((Below.refl w.heap.size w).alloc (Nat.le_refl _) (.cells #[.int .i64 c.id, .string (T c.proto), .int .i64 c.role, .int .i64 c.phase, .int .i64 c.step, (.slice ao m cp), .string (T c.own), .string (T c.peer), .string (T c.user), .int .i64 c.err] 25))
  obtain ⟨⟨x0, x1, x2, x3, x4, x5, x6, x7, x8, x9⟩, _⟩ := cv_reads HW.out
  clear hk hf
  go_enter Tryz.func36, Tryz.ntmps36
  go_wp2_with fail
  generalize w.alloc _ = W0 at *
  clear x0 x1 x2 x3 x4 x5 x6 x7 x8 x9
  go_loopw [6] (fun i wr => ∃ k : Nat, i = .int .i64 (k : Int) ∧ ((k : Int) ≤ c.step ∨ k = 0) ∧ Hid (∀ j : Nat, j < k → ¬ (0 ≤ Au.carries c j ∧ Au.sends c.proto c.role j = false)) ∧ Hid (Below W0.heap.size W0 wr)) (fun i _ => c.step.toNat - (intOf i).toNat)
  case atStart => exact ⟨0, rfl, .inr rfl, (fun j hj => by omega), Below.refl _ _⟩
  case round =>
    obtain ⟨k, rfl, hk, hn, HBR⟩ := hrel
    obtain ⟨⟨x0, x1, x2, x3, x4, x5, x6, x7, x8, x9⟩, _⟩ := cv_reads ((HBR.out.block _ (row_ltA HW.out)).trans HW.out)
    have HBW := Lib.hid (bnext HB.out HBR.out)
    by_cases hlt : (k : Int) < c.step
    · have HYK := Lib.hid (HY.out k hlt)
      have HNX := Lib.hid (show ¬ (0 ≤ Au.carries c k ∧ Au.sends c.proto c.role k = false) → ∀ j : Nat, j < k + 1 → ¬ (0 ≤ Au.carries c j ∧ Au.sends c.proto c.role j = false) from fun he j hj => by
        rcases Nat.lt_or_ge j k with h | h
        · exact hn.out j h
        · obtain rfl : j = k := by omega
          exact he)
      have HCK := Lib.hid (HCA.out (k : Int) wr HBW.out)
      have HSK := Lib.hid (fun W => HSN.out (k : Int) W)
      generalize Au.carries c (k : Int) = at_ at *
      generalize Au.sends c.proto c.role (k : Int) = sd at *
      have hkm : (k : Int) + 1 ≤ 1000000 := by omega
      by_cases ha : 0 ≤ at_
      · cases sd with
        | false =>
          have HF := Lib.hid (HYK.out ha rfl)
          clear HYK HNX hk
          go_wp2_with fail
          (with_reducible refine HCK.out.mono ?_); rintro e w1 ⟨rfl, b1⟩
          obtain ⟨⟨z0, z1, z2, z3, z4, z5, z6, z7, z8, z9⟩, _⟩ := cv_reads (((bnext HBR.out b1).block _ (row_ltA HW.out)).trans HW.out)
          have HB1 := Lib.hid (bnext HBW.out b1)
          clear b1
          go_wp2_with fail
          (with_reducible refine (HSK.out _).mono ?_); rintro e w2 ⟨rfl, rfl⟩
          go_wp2_with fail
          go_ret
          exact ⟨by rw [HF.out]; rfl, HB1.out⟩
        | true =>
          have HF := Lib.hid (HNX.out (by simp))
          clear HYK HNX
          go_wp2_with fail
          (with_reducible refine HCK.out.mono ?_); rintro e w1 ⟨rfl, b1⟩
          obtain ⟨⟨z0, z1, z2, z3, z4, z5, z6, z7, z8, z9⟩, _⟩ := cv_reads (((bnext HBR.out b1).block _ (row_ltA HW.out)).trans HW.out)
          have HB1 := Lib.hid (bnext HBR.out b1)
          clear b1
          go_wp2_with fail
          (with_reducible refine (HSK.out _).mono ?_); rintro e w2 ⟨rfl, rfl⟩
          go_wp2_with fail
          go_roundw
          case rel => exact ⟨k + 1, by go_num, .inl (by omega), HF, HB1⟩
          case measure => simp [intOf]; omega
      · have HF := Lib.hid (HNX.out (fun h => ha h.1))
        have ha1 : decide (0 ≤ at_) = false := decide_eq_false ha
        clear HYK HNX ha
        go_wp2_with fail
        (with_reducible refine HCK.out.mono ?_); rintro e w1 ⟨rfl, b1⟩
        have HB1 := Lib.hid (bnext HBR.out b1)
        clear b1
        go_wp2_with fail
        go_roundw
        case rel => exact ⟨k + 1, by go_num, .inl (by omega), HF, HB1⟩
        case measure => simp [intOf]; omega
    · have HF := Lib.hid (HN.out (fun j hj => by
        rcases Nat.lt_or_ge j k with h | h
        · exact hn.out j h
        · omega))
      go_wp2_with fail
      go_ret
      exact ⟨by rw [HF.out]; rfl, HBW.out⟩
/-- A conversation's box in worlds behind W0. -/
abbrev BxS (W0 W : World) (g : Nat) (c : Cnv) (kv : Value) : Prop :=
  W.cell? ⟨g, 0, none⟩ = some (.int .i64 c.id) ∧ W.cell? ⟨g, 1, none⟩ = some (.string (T c.proto)) ∧ W.cell? ⟨g, 2, none⟩ = some (.int .i64 c.role) ∧ W.cell? ⟨g, 3, none⟩ = some (.int .i64 c.phase) ∧ W.cell? ⟨g, 4, none⟩ = some (.int .i64 c.step) ∧ W.cell? ⟨g, 5, none⟩ = some kv ∧ W.cell? ⟨g, 6, none⟩ = some (.string (T c.own)) ∧ W.cell? ⟨g, 7, none⟩ = some (.string (T c.peer)) ∧ W.cell? ⟨g, 8, none⟩ = some (.string (T c.user)) ∧ W.cell? ⟨g, 9, none⟩ = some (.int .i64 c.err) ∧ Below W0.heap.size W0 W
theorem bx_s {W0 W : World} {g : Nat} {t : TypeId} {c : Cnv} {kv : Value} (h : W0.heap[g]? = some (.cells #[.int .i64 c.id, .string (T c.proto), .int .i64 c.role, .int .i64 c.phase, .int .i64 c.step, kv, .string (T c.own), .string (T c.peer), .string (T c.user), .int .i64 c.err] t (0, 0))) (hb : Below W0.heap.size W0 W) : BxS W0 W g c kv := by
  obtain ⟨⟨h0, h1, h2, h3, h4, h5, h6, h7, h8, h9⟩, _⟩ := cv_reads ((hb.block _ (row_ltA h)).trans h)
  exact ⟨h0, h1, h2, h3, h4, h5, h6, h7, h8, h9, hb⟩
theorem BxS.bel {W0 W : World} {g : Nat} {c : Cnv} {kv : Value} (h : BxS W0 W g c kv) : Below W0.heap.size W0 W := h.2.2.2.2.2.2.2.2.2.2
theorem two_rows (w : World) (A B : Obj) : ((w.alloc A).alloc B).heap[w.heap.size]? = some A ∧ ((w.alloc A).alloc B).heap[w.heap.size + 1]? = some B := by
  obtain ⟨h1, h2, _⟩ := aafter2 (w := w) (A := A) (B := B) (Below.refl _ _)
  exact ⟨h1, h2⟩
set_option maxRecDepth 20000 in
set_option maxHeartbeats 8000000 in
theorem read_chal (c : Cnv) (ao : Option Addr) (m cp : Nat) (w : World) (hk : Atts w (.slice ao m cp) c.key) (hf : Fine c) (hst : 0 ≤ c.step ∧ c.step ≤ 1000000) (hK : KIn w) (hp : c.phase = 1) (h1 : c.proto = Au.sChal) :
    Calls Tryz.prog 8 #[.agg #[.int .i64 c.id, .string (T c.proto), .int .i64 c.role, .int .i64 c.phase, .int .i64 c.step, (.slice ao m cp), .string (T c.own), .string (T c.peer), .string (T c.user), .int .i64 c.err]] w fun e w' => ∃ a n k, e = .returned (.tuple #[.agg #[.int .i64 (Au.settled { c with step := c.step + 1 }).id, .string (T (Au.settled { c with step := c.step + 1 }).proto), .int .i64 (Au.settled { c with step := c.step + 1 }).role, .int .i64 (Au.settled { c with step := c.step + 1 }).phase, .int .i64 (Au.settled { c with step := c.step + 1 }).step, (.slice a n k), .string (T (Au.settled { c with step := c.step + 1 }).own), .string (T (Au.settled { c with step := c.step + 1 }).peer), .string (T (Au.settled { c with step := c.step + 1 }).user), .int .i64 (Au.settled { c with step := c.step + 1 }).err], .string (T (Au.msgChal c c.step)), .int .i64 0]) ∧ Atts w' (.slice a n k) c.key ∧ (∀ q, a = some q → w.heap.size ≤ q.block) ∧ Below w.heap.size w w' := by
  have HR0 := Lib.hid (two_rows w (.cells #[.int .i64 c.id, .string (T c.proto), .int .i64 c.role, .int .i64 c.phase, .int .i64 c.step, (.slice ao m cp), .string (T c.own), .string (T c.peer), .string (T c.user), .int .i64 c.err] 25) (.cells #[.int .i64 0, .string (T []), .int .i64 0, .int .i64 0, .int .i64 0, .slice none 0 0, .string (T []), .string (T []), .string (T []), .int .i64 0] 25)).1
  have HZ0 := Lib.hid (two_rows w (.cells #[.int .i64 c.id, .string (T c.proto), .int .i64 c.role, .int .i64 c.phase, .int .i64 c.step, (.slice ao m cp), .string (T c.own), .string (T c.peer), .string (T c.user), .int .i64 c.err] 25) (.cells #[.int .i64 0, .string (T []), .int .i64 0, .int .i64 0, .int .i64 0, .slice none 0 0, .string (T []), .string (T []), .string (T []), .int .i64 0] 25)).2
  have HB0 := Lib.hid ((((Below.refl w.heap.size w).alloc (Nat.le_refl _) (.cells #[.int .i64 c.id, .string (T c.proto), .int .i64 c.role, .int .i64 c.phase, .int .i64 c.step, (.slice ao m cp), .string (T c.own), .string (T c.peer), .string (T c.user), .int .i64 c.err] 25)).alloc (by simp) (.cells #[.int .i64 0, .string (T []), .int .i64 0, .int .i64 0, .int .i64 0, .slice none 0 0, .string (T []), .string (T []), .string (T []), .int .i64 0] 25)))
  have HMS := Lib.hid (fun (W : World) (h : BxS ((w.alloc (.cells #[.int .i64 c.id, .string (T c.proto), .int .i64 c.role, .int .i64 c.phase, .int .i64 c.step, (.slice ao m cp), .string (T c.own), .string (T c.peer), .string (T c.user), .int .i64 c.err] 25)).alloc (.cells #[.int .i64 0, .string (T []), .int .i64 0, .int .i64 0, .int .i64 0, .slice none 0 0, .string (T []), .string (T []), .string (T []), .int .i64 0] 25)) W w.heap.size c (.slice ao m cp)) => (msgs_chal c ao m cp W h1).mono fun e w' h' => (⟨h'.1, bx_s HR0.out (bnext h.bel h'.2)⟩ : e = .returned (.func (.func 44) #[.agg #[.int .i64 c.id, .string (T c.proto), .int .i64 c.role, .int .i64 c.phase, .int .i64 c.step, (.slice ao m cp), .string (T c.own), .string (T c.peer), .string (T c.user), .int .i64 c.err]] #[]) ∧ BxS ((w.alloc (.cells #[.int .i64 c.id, .string (T c.proto), .int .i64 c.role, .int .i64 c.phase, .int .i64 c.step, (.slice ao m cp), .string (T c.own), .string (T c.peer), .string (T c.user), .int .i64 c.err] 25)).alloc (.cells #[.int .i64 0, .string (T []), .int .i64 0, .int .i64 0, .int .i64 0, .slice none 0 0, .string (T []), .string (T []), .string (T []), .int .i64 0] 25)) w' w.heap.size c (.slice ao m cp)))
  have HMG := Lib.hid (fun (W : World) (h : BxS ((w.alloc (.cells #[.int .i64 c.id, .string (T c.proto), .int .i64 c.role, .int .i64 c.phase, .int .i64 c.step, (.slice ao m cp), .string (T c.own), .string (T c.peer), .string (T c.user), .int .i64 c.err] 25)).alloc (.cells #[.int .i64 0, .string (T []), .int .i64 0, .int .i64 0, .int .i64 0, .slice none 0 0, .string (T []), .string (T []), .string (T []), .int .i64 0] 25)) W w.heap.size c (.slice ao m cp)) => (tchal_any c (.slice ao m cp) c.step W (hk.below (bnext HB0.out h.bel)) hf (hK.below (bnext HB0.out h.bel))).mono fun e w' h' => (⟨h'.1, bx_s HR0.out (bnext h.bel h'.2)⟩ : e = .returned (.string (T (Au.msgChal c c.step))) ∧ BxS ((w.alloc (.cells #[.int .i64 c.id, .string (T c.proto), .int .i64 c.role, .int .i64 c.phase, .int .i64 c.step, (.slice ao m cp), .string (T c.own), .string (T c.peer), .string (T c.user), .int .i64 c.err] 25)).alloc (.cells #[.int .i64 0, .string (T []), .int .i64 0, .int .i64 0, .int .i64 0, .slice none 0 0, .string (T []), .string (T []), .string (T []), .int .i64 0] 25)) w' w.heap.size c (.slice ao m cp)))
  have HST := Lib.hid (fun (W : World) (h : Atts W (.slice ao m cp) c.key) => settled_any { c with step := c.step + 1 } ao m cp W h ⟨hf.kl, hf.kf, hf.ow, hf.pe⟩)
  have HAT := Lib.hid (fun (W : World) (hb : Below ((w.alloc (.cells #[.int .i64 c.id, .string (T c.proto), .int .i64 c.role, .int .i64 c.phase, .int .i64 c.step, (.slice ao m cp), .string (T c.own), .string (T c.peer), .string (T c.user), .int .i64 c.err] 25)).alloc (.cells #[.int .i64 0, .string (T []), .int .i64 0, .int .i64 0, .int .i64 0, .slice none 0 0, .string (T []), .string (T []), .string (T []), .int .i64 0] 25)).heap.size ((w.alloc (.cells #[.int .i64 c.id, .string (T c.proto), .int .i64 c.role, .int .i64 c.phase, .int .i64 c.step, (.slice ao m cp), .string (T c.own), .string (T c.peer), .string (T c.user), .int .i64 c.err] 25)).alloc (.cells #[.int .i64 0, .string (T []), .int .i64 0, .int .i64 0, .int .i64 0, .slice none 0 0, .string (T []), .string (T []), .string (T []), .int .i64 0] 25)) W) => hk.below (bnext HB0.out hb))
  have hsl : c.step + 1 ≤ 9223372036854775807 := by omega
  have hsg : -9223372036854775808 ≤ c.step + 1 := by omega
  have HNE := Lib.hid (show ∀ q, ao = some q → c.key ≠ [] → q.block < w.heap.size from fun q hq hn => by
    obtain ⟨_, hc⟩ := hk.at
    obtain ⟨b, off, ha, hlt, _⟩ := hc 0 (List.length_pos_iff.2 hn)
    rw [hq] at ha; cases ha; exact hlt)
  have e1 : (c.phase != 1) = false := by rw [hp]; rfl
  clear hk hf hK h1 hst hp
  obtain ⟨⟨x0, x1, x2, x3, x4, x5, x6, x7, x8, x9⟩, _⟩ := cv_reads HR0.out
  go_enter Tryz.func8, Tryz.ntmps8
  go_upto_region 3 with fail
  have HSD : Hid (BxS ((w.alloc (.cells #[.int .i64 c.id, .string (T c.proto), .int .i64 c.role, .int .i64 c.phase, .int .i64 c.step, (.slice ao m cp), .string (T c.own), .string (T c.peer), .string (T c.user), .int .i64 c.err] 25)).alloc (.cells #[.int .i64 0, .string (T []), .int .i64 0, .int .i64 0, .int .i64 0, .slice none 0 0, .string (T []), .string (T []), .string (T []), .int .i64 0] 25)) ((w.alloc (.cells #[.int .i64 c.id, .string (T c.proto), .int .i64 c.role, .int .i64 c.phase, .int .i64 c.step, (.slice ao m cp), .string (T c.own), .string (T c.peer), .string (T c.user), .int .i64 c.err] 25)).alloc (.cells #[.int .i64 0, .string (T []), .int .i64 0, .int .i64 0, .int .i64 0, .slice none 0 0, .string (T []), .string (T []), .string (T []), .int .i64 0] 25)).drew w.heap.size c (.slice ao m cp)) := bx_s HR0.out (below_drew1 (Below.refl _ _))
  clear x0 x1 x2 x3 x4 x5 x6 x7 x8 x9
  generalize (w.alloc _).alloc _ = W0 at *
  go_region_held_law (fun W' => BxS W0 W' w.heap.size c (.slice ao m cp)) (first | (with_reducible assumption) | (with_reducible exact HSD.out)) (first | (go_at_call 27; (with_reducible refine (HMS.out _ (by assumption)).mono ?_); rintro e wx ⟨rfl, hkeep⟩) | (go_at_call 44; (with_reducible refine (HMG.out _ (by assumption)).mono ?_); rintro e wx ⟨rfl, hkeep⟩))
  all_goals
    have HBX := Lib.hid (BxS.bel hkeep)
    clear HMS HMG HSD
    have hr1 := (HBX.out.block _ (row_ltA HR0.out)).trans HR0.out
    have hz1 := (HBX.out.block _ (row_ltA HZ0.out)).trans HZ0.out
    obtain ⟨⟨x0, x1, x2, x3, x4, x5, x6, x7, x8, x9⟩, ⟨y0, y1, y2, y3, y4, y5, y6, y7, y8, y9⟩⟩ := cv_readsZ hr1
    have HRS := Lib.hid (heap_setCell_same wx w.heap.size 4 _ _ (.int .i64 (c.step + 1)) hr1)
    have HZS := Lib.hid (grown_keep (grown_set (grown_refl wx w.heap.size) 4 (.int .i64 (c.step + 1))) hz1 (by omega))
    have HGS := Lib.hid (grown_set (grown_refl wx w.heap.size) 4 (.int .i64 (c.step + 1)))
    have HBS := Lib.hid (grown_below (bnext HB0.out HBX.out) HGS.out (Nat.le_refl _))
    have HATS := Lib.hid (atts_keep (HAT.out wx HBX.out) HGS.out (fun q hq hn => by have := HNE.out q hq hn; omega))
    clear hr1 hz1 hkeep
    go_wp2_with fail
    (with_reducible refine (HST.out _ HATS.out).mono ?_); rintro e w2 ⟨a, n, k, rfl, hat, hab, b2⟩
    have hz2 := (b2.block _ (row_ltA HZS.out)).trans HZS.out
    obtain ⟨⟨z0, z1, z2, z3, z4, z5, z6, z7, z8, z9⟩, ⟨u0, u1, u2, u3, u4, u5, u6, u7, u8, u9⟩⟩ := cv_readsZ hz2
    have HZ2 := Lib.hid hz2
    have HA2 := Lib.hid hat
    have HB2 := Lib.hid (bnext HBS.out b2)
    have HQ := Lib.hid (show ∀ q, a = some q → q.block ≠ w.heap.size + 1 from fun q hq => by have := hab q hq; have := row_ltA HZS.out; omega)
    have HNB := Lib.hid (show ∀ q, a = some q → w.heap.size ≤ q.block from fun q hq => by have := hab q hq; have := row_ltA HZS.out; omega)
    clear hat hab b2 hz2
    go_wp2_with fail
    have hq := cv_stored (.int .i64 (Au.settled { c with step := c.step + 1 }).id) (.string (T (Au.settled { c with step := c.step + 1 }).proto)) (.int .i64 (Au.settled { c with step := c.step + 1 }).role) (.int .i64 (Au.settled { c with step := c.step + 1 }).phase) (.int .i64 (Au.settled { c with step := c.step + 1 }).step) ((.slice a n k)) (.string (T (Au.settled { c with step := c.step + 1 }).own)) (.string (T (Au.settled { c with step := c.step + 1 }).peer)) (.string (T (Au.settled { c with step := c.step + 1 }).user)) (.int .i64 (Au.settled { c with step := c.step + 1 }).err) HZ2.out
    obtain ⟨⟨q0, q1, q2, q3, q4, q5, q6, q7, q8, q9⟩, _⟩ := cv_readsZ hq.1
    exact bodyPost_ret (v := .tuple #[.agg #[.int .i64 (Au.settled { c with step := c.step + 1 }).id, .string (T (Au.settled { c with step := c.step + 1 }).proto), .int .i64 (Au.settled { c with step := c.step + 1 }).role, .int .i64 (Au.settled { c with step := c.step + 1 }).phase, .int .i64 (Au.settled { c with step := c.step + 1 }).step, (.slice a n k), .string (T (Au.settled { c with step := c.step + 1 }).own), .string (T (Au.settled { c with step := c.step + 1 }).peer), .string (T (Au.settled { c with step := c.step + 1 }).user), .int .i64 (Au.settled { c with step := c.step + 1 }).err], .string (T (Au.msgChal c c.step)), .int .i64 0]) (by simp [results, Tryz.results8, go_sem, q0, q1, q2, q3, q4, q5, q6, q7, q8, q9]) rfl ⟨a, n, k, rfl, HA2.out.grown hq.2 (fun q hq' => HQ.out q hq'), HNB.out, grown_below HB2.out hq.2 (by omega)⟩
set_option maxRecDepth 20000 in
set_option maxHeartbeats 8000000 in
theorem read_mut (c : Cnv) (ao : Option Addr) (m cp : Nat) (w : World) (hk : Atts w (.slice ao m cp) c.key) (hf : Fine c) (hst : 0 ≤ c.step ∧ c.step ≤ 1000000) (hK : KIn w) (hp : c.phase = 1) (h1 : c.proto = Au.sMutual) :
    Calls Tryz.prog 8 #[.agg #[.int .i64 c.id, .string (T c.proto), .int .i64 c.role, .int .i64 c.phase, .int .i64 c.step, (.slice ao m cp), .string (T c.own), .string (T c.peer), .string (T c.user), .int .i64 c.err]] w fun e w' => ∃ a n k, e = .returned (.tuple #[.agg #[.int .i64 (Au.settled { c with step := c.step + 1 }).id, .string (T (Au.settled { c with step := c.step + 1 }).proto), .int .i64 (Au.settled { c with step := c.step + 1 }).role, .int .i64 (Au.settled { c with step := c.step + 1 }).phase, .int .i64 (Au.settled { c with step := c.step + 1 }).step, (.slice a n k), .string (T (Au.settled { c with step := c.step + 1 }).own), .string (T (Au.settled { c with step := c.step + 1 }).peer), .string (T (Au.settled { c with step := c.step + 1 }).user), .int .i64 (Au.settled { c with step := c.step + 1 }).err], .string (T (Au.msgMutual c c.step)), .int .i64 0]) ∧ Atts w' (.slice a n k) c.key ∧ (∀ q, a = some q → w.heap.size ≤ q.block) ∧ Below w.heap.size w w' := by
  have HR0 := Lib.hid (two_rows w (.cells #[.int .i64 c.id, .string (T c.proto), .int .i64 c.role, .int .i64 c.phase, .int .i64 c.step, (.slice ao m cp), .string (T c.own), .string (T c.peer), .string (T c.user), .int .i64 c.err] 25) (.cells #[.int .i64 0, .string (T []), .int .i64 0, .int .i64 0, .int .i64 0, .slice none 0 0, .string (T []), .string (T []), .string (T []), .int .i64 0] 25)).1
  have HZ0 := Lib.hid (two_rows w (.cells #[.int .i64 c.id, .string (T c.proto), .int .i64 c.role, .int .i64 c.phase, .int .i64 c.step, (.slice ao m cp), .string (T c.own), .string (T c.peer), .string (T c.user), .int .i64 c.err] 25) (.cells #[.int .i64 0, .string (T []), .int .i64 0, .int .i64 0, .int .i64 0, .slice none 0 0, .string (T []), .string (T []), .string (T []), .int .i64 0] 25)).2
  have HB0 := Lib.hid ((((Below.refl w.heap.size w).alloc (Nat.le_refl _) (.cells #[.int .i64 c.id, .string (T c.proto), .int .i64 c.role, .int .i64 c.phase, .int .i64 c.step, (.slice ao m cp), .string (T c.own), .string (T c.peer), .string (T c.user), .int .i64 c.err] 25)).alloc (by simp) (.cells #[.int .i64 0, .string (T []), .int .i64 0, .int .i64 0, .int .i64 0, .slice none 0 0, .string (T []), .string (T []), .string (T []), .int .i64 0] 25)))
  have HMS := Lib.hid (fun (W : World) (h : BxS ((w.alloc (.cells #[.int .i64 c.id, .string (T c.proto), .int .i64 c.role, .int .i64 c.phase, .int .i64 c.step, (.slice ao m cp), .string (T c.own), .string (T c.peer), .string (T c.user), .int .i64 c.err] 25)).alloc (.cells #[.int .i64 0, .string (T []), .int .i64 0, .int .i64 0, .int .i64 0, .slice none 0 0, .string (T []), .string (T []), .string (T []), .int .i64 0] 25)) W w.heap.size c (.slice ao m cp)) => (msgs_mut c ao m cp W h1).mono fun e w' h' => (⟨h'.1, bx_s HR0.out (bnext h.bel h'.2)⟩ : e = .returned (.func (.func 45) #[.agg #[.int .i64 c.id, .string (T c.proto), .int .i64 c.role, .int .i64 c.phase, .int .i64 c.step, (.slice ao m cp), .string (T c.own), .string (T c.peer), .string (T c.user), .int .i64 c.err]] #[]) ∧ BxS ((w.alloc (.cells #[.int .i64 c.id, .string (T c.proto), .int .i64 c.role, .int .i64 c.phase, .int .i64 c.step, (.slice ao m cp), .string (T c.own), .string (T c.peer), .string (T c.user), .int .i64 c.err] 25)).alloc (.cells #[.int .i64 0, .string (T []), .int .i64 0, .int .i64 0, .int .i64 0, .slice none 0 0, .string (T []), .string (T []), .string (T []), .int .i64 0] 25)) w' w.heap.size c (.slice ao m cp)))
  have HMG := Lib.hid (fun (W : World) (h : BxS ((w.alloc (.cells #[.int .i64 c.id, .string (T c.proto), .int .i64 c.role, .int .i64 c.phase, .int .i64 c.step, (.slice ao m cp), .string (T c.own), .string (T c.peer), .string (T c.user), .int .i64 c.err] 25)).alloc (.cells #[.int .i64 0, .string (T []), .int .i64 0, .int .i64 0, .int .i64 0, .slice none 0 0, .string (T []), .string (T []), .string (T []), .int .i64 0] 25)) W w.heap.size c (.slice ao m cp)) => (tmut_any c (.slice ao m cp) c.step W (hk.below (bnext HB0.out h.bel)) hf (hK.below (bnext HB0.out h.bel))).mono fun e w' h' => (⟨h'.1, bx_s HR0.out (bnext h.bel h'.2)⟩ : e = .returned (.string (T (Au.msgMutual c c.step))) ∧ BxS ((w.alloc (.cells #[.int .i64 c.id, .string (T c.proto), .int .i64 c.role, .int .i64 c.phase, .int .i64 c.step, (.slice ao m cp), .string (T c.own), .string (T c.peer), .string (T c.user), .int .i64 c.err] 25)).alloc (.cells #[.int .i64 0, .string (T []), .int .i64 0, .int .i64 0, .int .i64 0, .slice none 0 0, .string (T []), .string (T []), .string (T []), .int .i64 0] 25)) w' w.heap.size c (.slice ao m cp)))
  have HST := Lib.hid (fun (W : World) (h : Atts W (.slice ao m cp) c.key) => settled_any { c with step := c.step + 1 } ao m cp W h ⟨hf.kl, hf.kf, hf.ow, hf.pe⟩)
  have HAT := Lib.hid (fun (W : World) (hb : Below ((w.alloc (.cells #[.int .i64 c.id, .string (T c.proto), .int .i64 c.role, .int .i64 c.phase, .int .i64 c.step, (.slice ao m cp), .string (T c.own), .string (T c.peer), .string (T c.user), .int .i64 c.err] 25)).alloc (.cells #[.int .i64 0, .string (T []), .int .i64 0, .int .i64 0, .int .i64 0, .slice none 0 0, .string (T []), .string (T []), .string (T []), .int .i64 0] 25)).heap.size ((w.alloc (.cells #[.int .i64 c.id, .string (T c.proto), .int .i64 c.role, .int .i64 c.phase, .int .i64 c.step, (.slice ao m cp), .string (T c.own), .string (T c.peer), .string (T c.user), .int .i64 c.err] 25)).alloc (.cells #[.int .i64 0, .string (T []), .int .i64 0, .int .i64 0, .int .i64 0, .slice none 0 0, .string (T []), .string (T []), .string (T []), .int .i64 0] 25)) W) => hk.below (bnext HB0.out hb))
  have hsl : c.step + 1 ≤ 9223372036854775807 := by omega
  have hsg : -9223372036854775808 ≤ c.step + 1 := by omega
  have HNE := Lib.hid (show ∀ q, ao = some q → c.key ≠ [] → q.block < w.heap.size from fun q hq hn => by
    obtain ⟨_, hc⟩ := hk.at
    obtain ⟨b, off, ha, hlt, _⟩ := hc 0 (List.length_pos_iff.2 hn)
    rw [hq] at ha; cases ha; exact hlt)
  have e1 : (c.phase != 1) = false := by rw [hp]; rfl
  clear hk hf hK h1 hst hp
  obtain ⟨⟨x0, x1, x2, x3, x4, x5, x6, x7, x8, x9⟩, _⟩ := cv_reads HR0.out
  go_enter Tryz.func8, Tryz.ntmps8
  go_upto_region 3 with fail
  have HSD : Hid (BxS ((w.alloc (.cells #[.int .i64 c.id, .string (T c.proto), .int .i64 c.role, .int .i64 c.phase, .int .i64 c.step, (.slice ao m cp), .string (T c.own), .string (T c.peer), .string (T c.user), .int .i64 c.err] 25)).alloc (.cells #[.int .i64 0, .string (T []), .int .i64 0, .int .i64 0, .int .i64 0, .slice none 0 0, .string (T []), .string (T []), .string (T []), .int .i64 0] 25)) ((w.alloc (.cells #[.int .i64 c.id, .string (T c.proto), .int .i64 c.role, .int .i64 c.phase, .int .i64 c.step, (.slice ao m cp), .string (T c.own), .string (T c.peer), .string (T c.user), .int .i64 c.err] 25)).alloc (.cells #[.int .i64 0, .string (T []), .int .i64 0, .int .i64 0, .int .i64 0, .slice none 0 0, .string (T []), .string (T []), .string (T []), .int .i64 0] 25)).drew w.heap.size c (.slice ao m cp)) := bx_s HR0.out (below_drew1 (Below.refl _ _))
  clear x0 x1 x2 x3 x4 x5 x6 x7 x8 x9
  generalize (w.alloc _).alloc _ = W0 at *
  go_region_held_law (fun W' => BxS W0 W' w.heap.size c (.slice ao m cp)) (first | (with_reducible assumption) | (with_reducible exact HSD.out)) (first | (go_at_call 27; (with_reducible refine (HMS.out _ (by assumption)).mono ?_); rintro e wx ⟨rfl, hkeep⟩) | (go_at_call 45; (with_reducible refine (HMG.out _ (by assumption)).mono ?_); rintro e wx ⟨rfl, hkeep⟩))
  all_goals
    have HBX := Lib.hid (BxS.bel hkeep)
    clear HMS HMG HSD
    have hr1 := (HBX.out.block _ (row_ltA HR0.out)).trans HR0.out
    have hz1 := (HBX.out.block _ (row_ltA HZ0.out)).trans HZ0.out
    obtain ⟨⟨x0, x1, x2, x3, x4, x5, x6, x7, x8, x9⟩, ⟨y0, y1, y2, y3, y4, y5, y6, y7, y8, y9⟩⟩ := cv_readsZ hr1
    have HRS := Lib.hid (heap_setCell_same wx w.heap.size 4 _ _ (.int .i64 (c.step + 1)) hr1)
    have HZS := Lib.hid (grown_keep (grown_set (grown_refl wx w.heap.size) 4 (.int .i64 (c.step + 1))) hz1 (by omega))
    have HGS := Lib.hid (grown_set (grown_refl wx w.heap.size) 4 (.int .i64 (c.step + 1)))
    have HBS := Lib.hid (grown_below (bnext HB0.out HBX.out) HGS.out (Nat.le_refl _))
    have HATS := Lib.hid (atts_keep (HAT.out wx HBX.out) HGS.out (fun q hq hn => by have := HNE.out q hq hn; omega))
    clear hr1 hz1 hkeep
    go_wp2_with fail
    (with_reducible refine (HST.out _ HATS.out).mono ?_); rintro e w2 ⟨a, n, k, rfl, hat, hab, b2⟩
    have hz2 := (b2.block _ (row_ltA HZS.out)).trans HZS.out
    obtain ⟨⟨z0, z1, z2, z3, z4, z5, z6, z7, z8, z9⟩, ⟨u0, u1, u2, u3, u4, u5, u6, u7, u8, u9⟩⟩ := cv_readsZ hz2
    have HZ2 := Lib.hid hz2
    have HA2 := Lib.hid hat
    have HB2 := Lib.hid (bnext HBS.out b2)
    have HQ := Lib.hid (show ∀ q, a = some q → q.block ≠ w.heap.size + 1 from fun q hq => by have := hab q hq; have := row_ltA HZS.out; omega)
    have HNB := Lib.hid (show ∀ q, a = some q → w.heap.size ≤ q.block from fun q hq => by have := hab q hq; have := row_ltA HZS.out; omega)
    clear hat hab b2 hz2
    go_wp2_with fail
    have hq := cv_stored (.int .i64 (Au.settled { c with step := c.step + 1 }).id) (.string (T (Au.settled { c with step := c.step + 1 }).proto)) (.int .i64 (Au.settled { c with step := c.step + 1 }).role) (.int .i64 (Au.settled { c with step := c.step + 1 }).phase) (.int .i64 (Au.settled { c with step := c.step + 1 }).step) ((.slice a n k)) (.string (T (Au.settled { c with step := c.step + 1 }).own)) (.string (T (Au.settled { c with step := c.step + 1 }).peer)) (.string (T (Au.settled { c with step := c.step + 1 }).user)) (.int .i64 (Au.settled { c with step := c.step + 1 }).err) HZ2.out
    obtain ⟨⟨q0, q1, q2, q3, q4, q5, q6, q7, q8, q9⟩, _⟩ := cv_readsZ hq.1
    exact bodyPost_ret (v := .tuple #[.agg #[.int .i64 (Au.settled { c with step := c.step + 1 }).id, .string (T (Au.settled { c with step := c.step + 1 }).proto), .int .i64 (Au.settled { c with step := c.step + 1 }).role, .int .i64 (Au.settled { c with step := c.step + 1 }).phase, .int .i64 (Au.settled { c with step := c.step + 1 }).step, (.slice a n k), .string (T (Au.settled { c with step := c.step + 1 }).own), .string (T (Au.settled { c with step := c.step + 1 }).peer), .string (T (Au.settled { c with step := c.step + 1 }).user), .int .i64 (Au.settled { c with step := c.step + 1 }).err], .string (T (Au.msgMutual c c.step)), .int .i64 0]) (by simp [results, Tryz.results8, go_sem, q0, q1, q2, q3, q4, q5, q6, q7, q8, q9]) rfl ⟨a, n, k, rfl, HA2.out.grown hq.2 (fun q hq' => HQ.out q hq'), HNB.out, grown_below HB2.out hq.2 (by omega)⟩
set_option maxRecDepth 20000 in
set_option maxHeartbeats 8000000 in
theorem read_pln (c : Cnv) (ao : Option Addr) (m cp : Nat) (w : World) (hk : Atts w (.slice ao m cp) c.key) (hf : Fine c) (hst : 0 ≤ c.step ∧ c.step ≤ 1000000) (hK : KIn w) (hp : c.phase = 1) (h1 : ¬ c.proto = Au.sChal) (h2 : ¬ c.proto = Au.sMutual) :
    Calls Tryz.prog 8 #[.agg #[.int .i64 c.id, .string (T c.proto), .int .i64 c.role, .int .i64 c.phase, .int .i64 c.step, (.slice ao m cp), .string (T c.own), .string (T c.peer), .string (T c.user), .int .i64 c.err]] w fun e w' => ∃ a n k, e = .returned (.tuple #[.agg #[.int .i64 (Au.settled { c with step := c.step + 1 }).id, .string (T (Au.settled { c with step := c.step + 1 }).proto), .int .i64 (Au.settled { c with step := c.step + 1 }).role, .int .i64 (Au.settled { c with step := c.step + 1 }).phase, .int .i64 (Au.settled { c with step := c.step + 1 }).step, (.slice a n k), .string (T (Au.settled { c with step := c.step + 1 }).own), .string (T (Au.settled { c with step := c.step + 1 }).peer), .string (T (Au.settled { c with step := c.step + 1 }).user), .int .i64 (Au.settled { c with step := c.step + 1 }).err], .string (T (Au.msgPlain c c.step)), .int .i64 0]) ∧ Atts w' (.slice a n k) c.key ∧ (∀ q, a = some q → w.heap.size ≤ q.block) ∧ Below w.heap.size w w' := by
  have HR0 := Lib.hid (two_rows w (.cells #[.int .i64 c.id, .string (T c.proto), .int .i64 c.role, .int .i64 c.phase, .int .i64 c.step, (.slice ao m cp), .string (T c.own), .string (T c.peer), .string (T c.user), .int .i64 c.err] 25) (.cells #[.int .i64 0, .string (T []), .int .i64 0, .int .i64 0, .int .i64 0, .slice none 0 0, .string (T []), .string (T []), .string (T []), .int .i64 0] 25)).1
  have HZ0 := Lib.hid (two_rows w (.cells #[.int .i64 c.id, .string (T c.proto), .int .i64 c.role, .int .i64 c.phase, .int .i64 c.step, (.slice ao m cp), .string (T c.own), .string (T c.peer), .string (T c.user), .int .i64 c.err] 25) (.cells #[.int .i64 0, .string (T []), .int .i64 0, .int .i64 0, .int .i64 0, .slice none 0 0, .string (T []), .string (T []), .string (T []), .int .i64 0] 25)).2
  have HB0 := Lib.hid ((((Below.refl w.heap.size w).alloc (Nat.le_refl _) (.cells #[.int .i64 c.id, .string (T c.proto), .int .i64 c.role, .int .i64 c.phase, .int .i64 c.step, (.slice ao m cp), .string (T c.own), .string (T c.peer), .string (T c.user), .int .i64 c.err] 25)).alloc (by simp) (.cells #[.int .i64 0, .string (T []), .int .i64 0, .int .i64 0, .int .i64 0, .slice none 0 0, .string (T []), .string (T []), .string (T []), .int .i64 0] 25)))
  have HMS := Lib.hid (fun (W : World) (h : BxS ((w.alloc (.cells #[.int .i64 c.id, .string (T c.proto), .int .i64 c.role, .int .i64 c.phase, .int .i64 c.step, (.slice ao m cp), .string (T c.own), .string (T c.peer), .string (T c.user), .int .i64 c.err] 25)).alloc (.cells #[.int .i64 0, .string (T []), .int .i64 0, .int .i64 0, .int .i64 0, .slice none 0 0, .string (T []), .string (T []), .string (T []), .int .i64 0] 25)) W w.heap.size c (.slice ao m cp)) => (msgs_pln c ao m cp W h1 h2).mono fun e w' h' => (⟨h'.1, bx_s HR0.out (bnext h.bel h'.2)⟩ : e = .returned (.func (.func 46) #[.agg #[.int .i64 c.id, .string (T c.proto), .int .i64 c.role, .int .i64 c.phase, .int .i64 c.step, (.slice ao m cp), .string (T c.own), .string (T c.peer), .string (T c.user), .int .i64 c.err]] #[]) ∧ BxS ((w.alloc (.cells #[.int .i64 c.id, .string (T c.proto), .int .i64 c.role, .int .i64 c.phase, .int .i64 c.step, (.slice ao m cp), .string (T c.own), .string (T c.peer), .string (T c.user), .int .i64 c.err] 25)).alloc (.cells #[.int .i64 0, .string (T []), .int .i64 0, .int .i64 0, .int .i64 0, .slice none 0 0, .string (T []), .string (T []), .string (T []), .int .i64 0] 25)) w' w.heap.size c (.slice ao m cp)))
  have HMG := Lib.hid (fun (W : World) (h : BxS ((w.alloc (.cells #[.int .i64 c.id, .string (T c.proto), .int .i64 c.role, .int .i64 c.phase, .int .i64 c.step, (.slice ao m cp), .string (T c.own), .string (T c.peer), .string (T c.user), .int .i64 c.err] 25)).alloc (.cells #[.int .i64 0, .string (T []), .int .i64 0, .int .i64 0, .int .i64 0, .slice none 0 0, .string (T []), .string (T []), .string (T []), .int .i64 0] 25)) W w.heap.size c (.slice ao m cp)) => (tpln_any c (.slice ao m cp) c.step W (hk.below (bnext HB0.out h.bel)) hf (hK.below (bnext HB0.out h.bel))).mono fun e w' h' => (⟨h'.1, bx_s HR0.out (bnext h.bel h'.2)⟩ : e = .returned (.string (T (Au.msgPlain c c.step))) ∧ BxS ((w.alloc (.cells #[.int .i64 c.id, .string (T c.proto), .int .i64 c.role, .int .i64 c.phase, .int .i64 c.step, (.slice ao m cp), .string (T c.own), .string (T c.peer), .string (T c.user), .int .i64 c.err] 25)).alloc (.cells #[.int .i64 0, .string (T []), .int .i64 0, .int .i64 0, .int .i64 0, .slice none 0 0, .string (T []), .string (T []), .string (T []), .int .i64 0] 25)) w' w.heap.size c (.slice ao m cp)))
  have HST := Lib.hid (fun (W : World) (h : Atts W (.slice ao m cp) c.key) => settled_any { c with step := c.step + 1 } ao m cp W h ⟨hf.kl, hf.kf, hf.ow, hf.pe⟩)
  have HAT := Lib.hid (fun (W : World) (hb : Below ((w.alloc (.cells #[.int .i64 c.id, .string (T c.proto), .int .i64 c.role, .int .i64 c.phase, .int .i64 c.step, (.slice ao m cp), .string (T c.own), .string (T c.peer), .string (T c.user), .int .i64 c.err] 25)).alloc (.cells #[.int .i64 0, .string (T []), .int .i64 0, .int .i64 0, .int .i64 0, .slice none 0 0, .string (T []), .string (T []), .string (T []), .int .i64 0] 25)).heap.size ((w.alloc (.cells #[.int .i64 c.id, .string (T c.proto), .int .i64 c.role, .int .i64 c.phase, .int .i64 c.step, (.slice ao m cp), .string (T c.own), .string (T c.peer), .string (T c.user), .int .i64 c.err] 25)).alloc (.cells #[.int .i64 0, .string (T []), .int .i64 0, .int .i64 0, .int .i64 0, .slice none 0 0, .string (T []), .string (T []), .string (T []), .int .i64 0] 25)) W) => hk.below (bnext HB0.out hb))
  have hsl : c.step + 1 ≤ 9223372036854775807 := by omega
  have hsg : -9223372036854775808 ≤ c.step + 1 := by omega
  have HNE := Lib.hid (show ∀ q, ao = some q → c.key ≠ [] → q.block < w.heap.size from fun q hq hn => by
    obtain ⟨_, hc⟩ := hk.at
    obtain ⟨b, off, ha, hlt, _⟩ := hc 0 (List.length_pos_iff.2 hn)
    rw [hq] at ha; cases ha; exact hlt)
  have e1 : (c.phase != 1) = false := by rw [hp]; rfl
  clear hk hf hK h1 h2 hst hp
  obtain ⟨⟨x0, x1, x2, x3, x4, x5, x6, x7, x8, x9⟩, _⟩ := cv_reads HR0.out
  go_enter Tryz.func8, Tryz.ntmps8
  go_upto_region 3 with fail
  have HSD : Hid (BxS ((w.alloc (.cells #[.int .i64 c.id, .string (T c.proto), .int .i64 c.role, .int .i64 c.phase, .int .i64 c.step, (.slice ao m cp), .string (T c.own), .string (T c.peer), .string (T c.user), .int .i64 c.err] 25)).alloc (.cells #[.int .i64 0, .string (T []), .int .i64 0, .int .i64 0, .int .i64 0, .slice none 0 0, .string (T []), .string (T []), .string (T []), .int .i64 0] 25)) ((w.alloc (.cells #[.int .i64 c.id, .string (T c.proto), .int .i64 c.role, .int .i64 c.phase, .int .i64 c.step, (.slice ao m cp), .string (T c.own), .string (T c.peer), .string (T c.user), .int .i64 c.err] 25)).alloc (.cells #[.int .i64 0, .string (T []), .int .i64 0, .int .i64 0, .int .i64 0, .slice none 0 0, .string (T []), .string (T []), .string (T []), .int .i64 0] 25)).drew w.heap.size c (.slice ao m cp)) := bx_s HR0.out (below_drew1 (Below.refl _ _))
  clear x0 x1 x2 x3 x4 x5 x6 x7 x8 x9
  generalize (w.alloc _).alloc _ = W0 at *
  go_region_held_law (fun W' => BxS W0 W' w.heap.size c (.slice ao m cp)) (first | (with_reducible assumption) | (with_reducible exact HSD.out)) (first | (go_at_call 27; (with_reducible refine (HMS.out _ (by assumption)).mono ?_); rintro e wx ⟨rfl, hkeep⟩) | (go_at_call 46; (with_reducible refine (HMG.out _ (by assumption)).mono ?_); rintro e wx ⟨rfl, hkeep⟩))
  all_goals
    have HBX := Lib.hid (BxS.bel hkeep)
    clear HMS HMG HSD
    have hr1 := (HBX.out.block _ (row_ltA HR0.out)).trans HR0.out
    have hz1 := (HBX.out.block _ (row_ltA HZ0.out)).trans HZ0.out
    obtain ⟨⟨x0, x1, x2, x3, x4, x5, x6, x7, x8, x9⟩, ⟨y0, y1, y2, y3, y4, y5, y6, y7, y8, y9⟩⟩ := cv_readsZ hr1
    have HRS := Lib.hid (heap_setCell_same wx w.heap.size 4 _ _ (.int .i64 (c.step + 1)) hr1)
    have HZS := Lib.hid (grown_keep (grown_set (grown_refl wx w.heap.size) 4 (.int .i64 (c.step + 1))) hz1 (by omega))
    have HGS := Lib.hid (grown_set (grown_refl wx w.heap.size) 4 (.int .i64 (c.step + 1)))
    have HBS := Lib.hid (grown_below (bnext HB0.out HBX.out) HGS.out (Nat.le_refl _))
    have HATS := Lib.hid (atts_keep (HAT.out wx HBX.out) HGS.out (fun q hq hn => by have := HNE.out q hq hn; omega))
    clear hr1 hz1 hkeep
    go_wp2_with fail
    (with_reducible refine (HST.out _ HATS.out).mono ?_); rintro e w2 ⟨a, n, k, rfl, hat, hab, b2⟩
    have hz2 := (b2.block _ (row_ltA HZS.out)).trans HZS.out
    obtain ⟨⟨z0, z1, z2, z3, z4, z5, z6, z7, z8, z9⟩, ⟨u0, u1, u2, u3, u4, u5, u6, u7, u8, u9⟩⟩ := cv_readsZ hz2
    have HZ2 := Lib.hid hz2
    have HA2 := Lib.hid hat
    have HB2 := Lib.hid (bnext HBS.out b2)
    have HQ := Lib.hid (show ∀ q, a = some q → q.block ≠ w.heap.size + 1 from fun q hq => by have := hab q hq; have := row_ltA HZS.out; omega)
    have HNB := Lib.hid (show ∀ q, a = some q → w.heap.size ≤ q.block from fun q hq => by have := hab q hq; have := row_ltA HZS.out; omega)
    clear hat hab b2 hz2
    go_wp2_with fail
    have hq := cv_stored (.int .i64 (Au.settled { c with step := c.step + 1 }).id) (.string (T (Au.settled { c with step := c.step + 1 }).proto)) (.int .i64 (Au.settled { c with step := c.step + 1 }).role) (.int .i64 (Au.settled { c with step := c.step + 1 }).phase) (.int .i64 (Au.settled { c with step := c.step + 1 }).step) ((.slice a n k)) (.string (T (Au.settled { c with step := c.step + 1 }).own)) (.string (T (Au.settled { c with step := c.step + 1 }).peer)) (.string (T (Au.settled { c with step := c.step + 1 }).user)) (.int .i64 (Au.settled { c with step := c.step + 1 }).err) HZ2.out
    obtain ⟨⟨q0, q1, q2, q3, q4, q5, q6, q7, q8, q9⟩, _⟩ := cv_readsZ hq.1
    exact bodyPost_ret (v := .tuple #[.agg #[.int .i64 (Au.settled { c with step := c.step + 1 }).id, .string (T (Au.settled { c with step := c.step + 1 }).proto), .int .i64 (Au.settled { c with step := c.step + 1 }).role, .int .i64 (Au.settled { c with step := c.step + 1 }).phase, .int .i64 (Au.settled { c with step := c.step + 1 }).step, (.slice a n k), .string (T (Au.settled { c with step := c.step + 1 }).own), .string (T (Au.settled { c with step := c.step + 1 }).peer), .string (T (Au.settled { c with step := c.step + 1 }).user), .int .i64 (Au.settled { c with step := c.step + 1 }).err], .string (T (Au.msgPlain c c.step)), .int .i64 0]) (by simp [results, Tryz.results8, go_sem, q0, q1, q2, q3, q4, q5, q6, q7, q8, q9]) rfl ⟨a, n, k, rfl, HA2.out.grown hq.2 (fun q hq' => HQ.out q hq'), HNB.out, grown_below HB2.out hq.2 (by omega)⟩
set_option maxRecDepth 20000 in
set_option maxHeartbeats 8000000 in
theorem read_off (c : Cnv) (ao : Option Addr) (m cp : Nat) (w : World) (hk : Atts w (.slice ao m cp) c.key) (hf : Fine c) (hp : ¬ c.phase = 1) :
    Calls Tryz.prog 8 #[.agg #[.int .i64 c.id, .string (T c.proto), .int .i64 c.role, .int .i64 c.phase, .int .i64 c.step, (.slice ao m cp), .string (T c.own), .string (T c.peer), .string (T c.user), .int .i64 c.err]] w fun e w' => ∃ a n k, e = .returned (.tuple #[.agg #[.int .i64 c.id, .string (T c.proto), .int .i64 c.role, .int .i64 c.phase, .int .i64 c.step, (.slice a n k), .string (T c.own), .string (T c.peer), .string (T c.user), .int .i64 c.err], .string (T []), .int .i64 53]) ∧ Atts w' (.slice a n k) c.key ∧ (∀ q, a = some q → w.heap.size ≤ q.block) ∧ Below w.heap.size w w' := by
  have HZ0 := Lib.hid (two_rows w (.cells #[.int .i64 c.id, .string (T c.proto), .int .i64 c.role, .int .i64 c.phase, .int .i64 c.step, (.slice ao m cp), .string (T c.own), .string (T c.peer), .string (T c.user), .int .i64 c.err] 25) (.cells #[.int .i64 0, .string (T []), .int .i64 0, .int .i64 0, .int .i64 0, .slice none 0 0, .string (T []), .string (T []), .string (T []), .int .i64 0] 25)).2
  have HB0 := Lib.hid ((((Below.refl w.heap.size w).alloc (Nat.le_refl _) (.cells #[.int .i64 c.id, .string (T c.proto), .int .i64 c.role, .int .i64 c.phase, .int .i64 c.step, (.slice ao m cp), .string (T c.own), .string (T c.peer), .string (T c.user), .int .i64 c.err] 25)).alloc (by simp) (.cells #[.int .i64 0, .string (T []), .int .i64 0, .int .i64 0, .int .i64 0, .slice none 0 0, .string (T []), .string (T []), .string (T []), .int .i64 0] 25)))
  have HCP := Lib.hid (fun (W : World) (hb : Below w.heap.size w W) => copied_any c ao m cp W (hk.below hb) hf)
  have e1 : (c.phase != 1) = true := by simpa using hp
  clear hk hf hp
  go_enter Tryz.func8, Tryz.ntmps8
  go_wp2_with fail
  (with_reducible refine (HCP.out _ HB0.out).mono ?_); rintro e w2 ⟨a, n, k, rfl, hat, hab, b2⟩
  have hz2 := (b2.block _ (row_ltA HZ0.out)).trans HZ0.out
  obtain ⟨⟨z0, z1, z2, z3, z4, z5, z6, z7, z8, z9⟩, ⟨u0, u1, u2, u3, u4, u5, u6, u7, u8, u9⟩⟩ := cv_readsZ hz2
  have HZ2 := Lib.hid hz2
  have HA2 := Lib.hid hat
  have HB2 := Lib.hid (bnext HB0.out b2)
  have HQ := Lib.hid (show ∀ q, a = some q → q.block ≠ w.heap.size + 1 from fun q hq => by have := hab q hq; have := row_ltA HZ0.out; omega)
  have HNB := Lib.hid (show ∀ q, a = some q → w.heap.size ≤ q.block from fun q hq => by have := hab q hq; have := row_ltA HZ0.out; omega)
  clear hat hab b2 hz2
  go_wp2_with fail
  have hq := cv_stored (.int .i64 c.id) (.string (T c.proto)) (.int .i64 c.role) (.int .i64 c.phase) (.int .i64 c.step) ((.slice a n k)) (.string (T c.own)) (.string (T c.peer)) (.string (T c.user)) (.int .i64 c.err) HZ2.out
  obtain ⟨⟨q0, q1, q2, q3, q4, q5, q6, q7, q8, q9⟩, _⟩ := cv_readsZ hq.1
  exact bodyPost_ret (v := .tuple #[.agg #[.int .i64 c.id, .string (T c.proto), .int .i64 c.role, .int .i64 c.phase, .int .i64 c.step, (.slice a n k), .string (T c.own), .string (T c.peer), .string (T c.user), .int .i64 c.err], .string (T []), .int .i64 53]) (by simp [results, Tryz.results8, go_sem, q0, q1, q2, q3, q4, q5, q6, q7, q8, q9]) rfl ⟨a, n, k, rfl, HA2.out.grown hq.2 (fun q hq' => HQ.out q hq'), HNB.out, grown_below HB2.out hq.2 (by omega)⟩
theorem read_any (c : Cnv) (ao : Option Addr) (m cp : Nat) (w : World) (hk : Atts w (.slice ao m cp) c.key) (hf : Fine c) (hst : 0 ≤ c.step ∧ c.step ≤ 1000000) (hK : KIn w) :
    Calls Tryz.prog 8 #[.agg #[.int .i64 c.id, .string (T c.proto), .int .i64 c.role, .int .i64 c.phase, .int .i64 c.step, (.slice ao m cp), .string (T c.own), .string (T c.peer), .string (T c.user), .int .i64 c.err]] w fun e w' => ∃ a n k, e = .returned (.tuple #[.agg #[.int .i64 (Au.read c).1.id, .string (T (Au.read c).1.proto), .int .i64 (Au.read c).1.role, .int .i64 (Au.read c).1.phase, .int .i64 (Au.read c).1.step, (.slice a n k), .string (T (Au.read c).1.own), .string (T (Au.read c).1.peer), .string (T (Au.read c).1.user), .int .i64 (Au.read c).1.err], .string (T (Au.read c).2.1), .int .i64 (Au.read c).2.2]) ∧ Atts w' (.slice a n k) c.key ∧ (∀ q, a = some q → w.heap.size ≤ q.block) ∧ Below w.heap.size w w' := by
  by_cases hp : c.phase = 1
  · have hr : Au.read c = (Au.settled { c with step := c.step + 1 }, Au.msg c c.step, 0) := by unfold Au.read; rw [if_pos hp]
    rw [hr]
    by_cases h1 : c.proto = Au.sChal
    · rw [show Au.msg c c.step = Au.msgChal c c.step from by unfold Au.msg; rw [if_pos h1]]
      exact read_chal c ao m cp w hk hf hst hK hp h1
    · by_cases h2 : c.proto = Au.sMutual
      · rw [show Au.msg c c.step = Au.msgMutual c c.step from by unfold Au.msg; rw [if_neg h1, if_pos h2]]
        exact read_mut c ao m cp w hk hf hst hK hp h2
      · rw [show Au.msg c c.step = Au.msgPlain c c.step from by unfold Au.msg; rw [if_neg h1, if_neg h2]]
        exact read_pln c ao m cp w hk hf hst hK hp h1 h2
  · have hr : Au.read c = (c, [], 53) := by unfold Au.read; rw [if_neg hp]
    rw [hr]
    exact read_off c ao m cp w hk hf hp
end Go.Proofs.YtjjdaelddicokaaGreatDoor
