/- What SameUnion returns: Ns.sameU?. Conditions: the slices hold the given targets; at most 10^6 of them. -/
import Derived.Test.YtganenaaglfdnaaMntEqual
import Derived.Test.YtganenaaglfdnaaSkips
set_option linter.unusedVariables false
set_option linter.unusedSimpArgs false
namespace Go.Proofs.Ytganenaaglfdnaa
open Go.RowKit
namespace Ns
open Classical in
theorem sameU_no {a b : List Tgt} (h : ¬ sameU a b) : sameU? a b = false := decide_eq_false h
open Classical in
theorem sameU_yes {a b : List Tgt} (h : sameU a b) : sameU? a b = true := decide_eq_true h
end Ns

set_option maxRecDepth 20000 in
set_option maxHeartbeats 4000000 in
theorem rsameu_any (v1 v2 : Value) (a b : List Tgt) (w : World) (h1 : Tgts w v1 a) (h2 : Tgts w v2 b) (hl : a.length ≤ 1000000) (hl2 : b.length ≤ 1000000) :
    Calls Try.prog 49 #[v1, v2] w fun e w' => e = .returned (.bool (Ns.sameU? a b)) ∧ Below w.heap.size w w' := by
  obtain ⟨a1, n1, p1, rfl⟩ := h1.form
  obtain ⟨a2, n2, p2, rfl⟩ := h2.form
  obtain ⟨rfl, k1⟩ := h1.at
  obtain ⟨rfl, k2⟩ := h2.at
  have HB := Lib.hid (Below.refl w.heap.size w)
  have H1 := Lib.hid k1
  have H2 := Lib.hid k2
  clear h1 h2 k1 k2
  by_cases hn : a.length = b.length
  rotate_left
  · have HF := Lib.hid (Ns.sameU_no (fun h => hn h.1))
    have hni : ¬ (a.length : Int) = b.length := by omega
    go_enter Try.func49, Try.ntmps49
    go_wp2_with fail
    go_ret
    exact ⟨by rw [HF.out]; rfl, HB.out⟩
  have hni : (a.length : Int) = b.length := by omega
  have HNN := Lib.hid hn
  have HY := Lib.hid (fun h => Ns.sameU_yes (a := a) (b := b) ⟨hn, h⟩)
  have HNO := Lib.hid (fun h => Ns.sameU_no (a := a) (b := b) h)
  rw [← hn]
  clear hn hni hl2
  go_enter Try.func49, Try.ntmps49
  go_wp2_with fail
  go_loopw [13] (fun i wr => ∃ k : Nat, k ≤ a.length ∧ i = .int .i64 (k : Int) ∧ Hid (∀ j (h : j < a.length) (h2 : j < b.length), j < k → Ns.same a[j].ch b[j].ch = true ∧ a[j].cr = b[j].cr) ∧ Hid (Below w.heap.size w wr)) (fun i _ => a.length - (intOf i).toNat)
  case atStart => exact ⟨0, by omega, rfl, (fun j _ _ hj => by omega), HB.out⟩
  case round =>
    obtain ⟨k, hk, rfl, hn, HBW⟩ := hrel
    by_cases hlt : k < a.length
    · have hlt2 : k < b.length := by have := HNN.out; omega
      obtain ⟨x1, o1, rfl, l1, ca, c5⟩ := H1.out k hlt
      obtain ⟨x2, o2, rfl, l2, da, d5⟩ := H2.out k hlt2
      have hki : (k : Int) < a.length := by omega
      have hb := HBW.out
      obtain ⟨c0, c1, c2, c3, c4⟩ := ca.below (w' := wr) ⟨hb.os, hb.tape, hb.output, hb.size, hb.block⟩ l1
      obtain ⟨d0, d1, d2, d3, d4⟩ := da.below (w' := wr) ⟨hb.os, hb.tape, hb.output, hb.size, hb.block⟩ l2
      rw [← hb.cell (p := ⟨x1, o1 + k * 6 + 5, none⟩) l1] at c5
      rw [← hb.cell (p := ⟨x2, o2 + k * 6 + 5, none⟩) l2] at d5
      obtain ⟨cr1, hcr1⟩ : ∃ c, a[k].cr = c := ⟨_, rfl⟩
      obtain ⟨cr2, hcr2⟩ : ∃ c, b[k].cr = c := ⟨_, rfl⟩
      rw [hcr1] at c5
      rw [hcr2] at d5
      have HC1 := Lib.hid hcr1
      have HC2 := Lib.hid hcr2
      clear hb ca da hcr1 hcr2
      have KEEP : ∀ W' : World, Below wr.heap.size wr W' → (W'.cell? ⟨x1, o1 + k * 6, none⟩ = some (.int .i64 a[k].ch.dev) ∧ W'.cell? ⟨x1, o1 + k * 6 + 1, none⟩ = some (.int .i64 a[k].ch.id) ∧ W'.cell? ⟨x1, o1 + k * 6 + 2, none⟩ = some (.int .i64 a[k].ch.fid) ∧ W'.cell? ⟨x1, o1 + k * 6 + 3, none⟩ = some (.string (T a[k].ch.path)) ∧ W'.cell? ⟨x1, o1 + k * 6 + 4, none⟩ = some (.string (T a[k].ch.name)) ∧ W'.cell? ⟨x1, o1 + k * 6 + 5, none⟩ = some (.bool cr1) ∧ W'.cell? ⟨x2, o2 + k * 6, none⟩ = some (.int .i64 b[k].ch.dev) ∧ W'.cell? ⟨x2, o2 + k * 6 + 1, none⟩ = some (.int .i64 b[k].ch.id) ∧ W'.cell? ⟨x2, o2 + k * 6 + 2, none⟩ = some (.int .i64 b[k].ch.fid) ∧ W'.cell? ⟨x2, o2 + k * 6 + 3, none⟩ = some (.string (T b[k].ch.path)) ∧ W'.cell? ⟨x2, o2 + k * 6 + 4, none⟩ = some (.string (T b[k].ch.name)) ∧ W'.cell? ⟨x2, o2 + k * 6 + 5, none⟩ = some (.bool cr2) ∧ Below wr.heap.size wr W') := fun W' hb => ⟨cell_next c0 hb, cell_next c1 hb, cell_next c2 hb, cell_next c3 hb, cell_next c4 hb, cell_next c5 hb, cell_next d0 hb, cell_next d1 hb, cell_next d2 hb, cell_next d3 hb, cell_next d4 hb, cell_next d5 hb, hb⟩
      have HBR := Lib.hid (Below.refl wr.heap.size wr)
      have HSM := Lib.hid (fun (W : World) (h : (W.cell? ⟨x1, o1 + k * 6, none⟩ = some (.int .i64 a[k].ch.dev) ∧ W.cell? ⟨x1, o1 + k * 6 + 1, none⟩ = some (.int .i64 a[k].ch.id) ∧ W.cell? ⟨x1, o1 + k * 6 + 2, none⟩ = some (.int .i64 a[k].ch.fid) ∧ W.cell? ⟨x1, o1 + k * 6 + 3, none⟩ = some (.string (T a[k].ch.path)) ∧ W.cell? ⟨x1, o1 + k * 6 + 4, none⟩ = some (.string (T a[k].ch.name)) ∧ W.cell? ⟨x1, o1 + k * 6 + 5, none⟩ = some (.bool cr1) ∧ W.cell? ⟨x2, o2 + k * 6, none⟩ = some (.int .i64 b[k].ch.dev) ∧ W.cell? ⟨x2, o2 + k * 6 + 1, none⟩ = some (.int .i64 b[k].ch.id) ∧ W.cell? ⟨x2, o2 + k * 6 + 2, none⟩ = some (.int .i64 b[k].ch.fid) ∧ W.cell? ⟨x2, o2 + k * 6 + 3, none⟩ = some (.string (T b[k].ch.path)) ∧ W.cell? ⟨x2, o2 + k * 6 + 4, none⟩ = some (.string (T b[k].ch.name)) ∧ W.cell? ⟨x2, o2 + k * 6 + 5, none⟩ = some (.bool cr2) ∧ Below wr.heap.size wr W)) => (rmsame_any a[k].ch b[k].ch W).mono fun e w' (h' : e = .returned (.bool (Ns.same a[k].ch b[k].ch)) ∧ Below W.heap.size W w') => (show e = .returned (.bool (Ns.same a[k].ch b[k].ch)) ∧ (w'.cell? ⟨x1, o1 + k * 6, none⟩ = some (.int .i64 a[k].ch.dev) ∧ w'.cell? ⟨x1, o1 + k * 6 + 1, none⟩ = some (.int .i64 a[k].ch.id) ∧ w'.cell? ⟨x1, o1 + k * 6 + 2, none⟩ = some (.int .i64 a[k].ch.fid) ∧ w'.cell? ⟨x1, o1 + k * 6 + 3, none⟩ = some (.string (T a[k].ch.path)) ∧ w'.cell? ⟨x1, o1 + k * 6 + 4, none⟩ = some (.string (T a[k].ch.name)) ∧ w'.cell? ⟨x1, o1 + k * 6 + 5, none⟩ = some (.bool cr1) ∧ w'.cell? ⟨x2, o2 + k * 6, none⟩ = some (.int .i64 b[k].ch.dev) ∧ w'.cell? ⟨x2, o2 + k * 6 + 1, none⟩ = some (.int .i64 b[k].ch.id) ∧ w'.cell? ⟨x2, o2 + k * 6 + 2, none⟩ = some (.int .i64 b[k].ch.fid) ∧ w'.cell? ⟨x2, o2 + k * 6 + 3, none⟩ = some (.string (T b[k].ch.path)) ∧ w'.cell? ⟨x2, o2 + k * 6 + 4, none⟩ = some (.string (T b[k].ch.name)) ∧ w'.cell? ⟨x2, o2 + k * 6 + 5, none⟩ = some (.bool cr2) ∧ Below wr.heap.size wr w') from ⟨h'.1, KEEP _ (bnext h.2.2.2.2.2.2.2.2.2.2.2.2 h'.2)⟩))
      unfold chv at HSM
      cases hs : Ns.same a[k].ch b[k].ch
      · have HF := Lib.hid (HNO.out (fun h => by rw [(h.2 k hlt hlt2).1] at hs; cases hs))
        rw [hs] at HSM
        go_upto_region 6 with fail
        refine wp_region_held_drew (S := (fun W' => (W'.cell? ⟨x1, o1 + k * 6, none⟩ = some (.int .i64 a[k].ch.dev) ∧ W'.cell? ⟨x1, o1 + k * 6 + 1, none⟩ = some (.int .i64 a[k].ch.id) ∧ W'.cell? ⟨x1, o1 + k * 6 + 2, none⟩ = some (.int .i64 a[k].ch.fid) ∧ W'.cell? ⟨x1, o1 + k * 6 + 3, none⟩ = some (.string (T a[k].ch.path)) ∧ W'.cell? ⟨x1, o1 + k * 6 + 4, none⟩ = some (.string (T a[k].ch.name)) ∧ W'.cell? ⟨x1, o1 + k * 6 + 5, none⟩ = some (.bool cr1) ∧ W'.cell? ⟨x2, o2 + k * 6, none⟩ = some (.int .i64 b[k].ch.dev) ∧ W'.cell? ⟨x2, o2 + k * 6 + 1, none⟩ = some (.int .i64 b[k].ch.id) ∧ W'.cell? ⟨x2, o2 + k * 6 + 2, none⟩ = some (.int .i64 b[k].ch.fid) ∧ W'.cell? ⟨x2, o2 + k * 6 + 3, none⟩ = some (.string (T b[k].ch.path)) ∧ W'.cell? ⟨x2, o2 + k * 6 + 4, none⟩ = some (.string (T b[k].ch.name)) ∧ W'.cell? ⟨x2, o2 + k * 6 + 5, none⟩ = some (.bool cr2) ∧ Below wr.heap.size wr W'))) (by kernel_rfl) (KEEP _ (below_drew1 HBR.out)) (fun hHeld => ?_)
        refine wpAnyH_takeD (i := 0) (d := 16) (v := ?v0) rfl rfl (by kernel_rfl) (by kernel_rfl) (by kernel_rfl) (fun _ _ _ h => h) (Or.inl ⟨by rfl, ?yv0⟩) (by assumption) ?rv0
        case yv0 => (intro w hSw; (try dsimp only at hSw); go_simp <;> with_reducible rfl)
        try simp only [Act.put, List.setIfInBounds_toArray, List.set_cons_zero, List.set_cons_succ]
        refine wpAnyH_takeD (i := 1) (d := 17) (v := ?v1) rfl rfl (by kernel_rfl) (by kernel_rfl) (by kernel_rfl) (fun _ _ _ h => h) (Or.inl ⟨by rfl, ?yv1⟩) (by assumption) ?rv1
        case yv1 => (intro w hSw; (try dsimp only at hSw); go_simp <;> with_reducible rfl)
        try simp only [Act.put, List.setIfInBounds_toArray, List.set_cons_zero, List.set_cons_succ]
        refine wpAnyH_takeD (i := 2) (d := 18) (v := ?v2) rfl rfl (by kernel_rfl) (by kernel_rfl) (by kernel_rfl) (fun _ _ _ h => h) (Or.inl ⟨by rfl, ?yv2⟩) (by assumption) ?rv2
        case yv2 => (intro w hSw; (try dsimp only at hSw); go_simp <;> with_reducible rfl)
        try simp only [Act.put, List.setIfInBounds_toArray, List.set_cons_zero, List.set_cons_succ]
        refine wpAnyH_takeD (i := 3) (d := 19) (v := ?v3) rfl rfl (by kernel_rfl) (by kernel_rfl) (by kernel_rfl) (fun _ _ _ h => h) (Or.inl ⟨by rfl, ?yv3⟩) (by assumption) ?rv3
        case yv3 => (intro w hSw; (try dsimp only at hSw); go_simp <;> with_reducible rfl)
        try simp only [Act.put, List.setIfInBounds_toArray, List.set_cons_zero, List.set_cons_succ]
        refine wpAnyH_takeD (i := 4) (d := 20) (v := ?v4) rfl rfl (by kernel_rfl) (by kernel_rfl) (by kernel_rfl) (fun _ _ _ h => h) (Or.inl ⟨by rfl, ?yv4⟩) (by assumption) ?rv4
        case yv4 => (intro w hSw; (try dsimp only at hSw); go_simp <;> with_reducible rfl)
        try simp only [Act.put, List.setIfInBounds_toArray, List.set_cons_zero, List.set_cons_succ]
        refine wpAnyH_takeD (i := 5) (d := 21) (v := ?v5) rfl rfl (by kernel_rfl) (by kernel_rfl) (by kernel_rfl) (fun _ _ _ h => h) (Or.inl ⟨by rfl, ?yv5⟩) (by assumption) ?rv5
        case yv5 => (intro w hSw; (try dsimp only at hSw); go_simp <;> with_reducible rfl)
        try simp only [Act.put, List.setIfInBounds_toArray, List.set_cons_zero, List.set_cons_succ]
        refine wpAnyH_takeD (i := 6) (d := 22) (v := ?v6) rfl rfl (by kernel_rfl) (by kernel_rfl) (by kernel_rfl) (fun _ _ _ h => h) (Or.inl ⟨by rfl, ?yv6⟩) (by assumption) ?rv6
        case yv6 => (intro w hSw; (try dsimp only at hSw); go_simp <;> with_reducible rfl)
        try simp only [Act.put, List.setIfInBounds_toArray, List.set_cons_zero, List.set_cons_succ]
        refine wpAnyH_takeD (i := 7) (d := 23) (v := ?v7) rfl rfl (by kernel_rfl) (by kernel_rfl) (by kernel_rfl) (fun _ _ _ h => h) (Or.inl ⟨by rfl, ?yv7⟩) (by assumption) ?rv7
        case yv7 => (intro w hSw; (try dsimp only at hSw); go_simp <;> with_reducible rfl)
        try simp only [Act.put, List.setIfInBounds_toArray, List.set_cons_zero, List.set_cons_succ]
        refine wpAnyH_takeD (i := 8) (d := 24) (v := ?v8) rfl rfl (by kernel_rfl) (by kernel_rfl) (by kernel_rfl) (fun _ _ _ h => h) (Or.inl ⟨by rfl, ?yv8⟩) (by assumption) ?rv8
        case yv8 => (intro w hSw; (try dsimp only at hSw); go_simp <;> with_reducible rfl)
        try simp only [Act.put, List.setIfInBounds_toArray, List.set_cons_zero, List.set_cons_succ]
        refine wpAnyH_takeD (i := 9) (d := 25) (v := ?v9) rfl rfl (by kernel_rfl) (by kernel_rfl) (by kernel_rfl) (fun _ _ _ h => h) (Or.inl ⟨by rfl, ?yv9⟩) (by assumption) ?rv9
        case yv9 => (intro w hSw; (try dsimp only at hSw); go_simp <;> with_reducible rfl)
        try simp only [Act.put, List.setIfInBounds_toArray, List.set_cons_zero, List.set_cons_succ]
        refine wpAnyH_ready (rs := [10]) (by kernel_rfl) (by simp) ?_
        refine AllReadyH.cons rfl (fun K hK => ?_) AllReadyH.nil
        go_simp
        go_wp2_with (go_at_call 48; refine (HSM.out _ (by assumption)).mono ?_; rintro e w' ⟨rfl, hkeep⟩)
        refine hK.out _ _ hkeep (fun hHeld => ?_)
        clear hK K
        try simp only [Act.put, List.setIfInBounds_toArray, List.set_cons_zero, List.set_cons_succ]
        refine wpAnyH_takeD (i := 11) (d := 27) (v := ?v11) rfl rfl (by kernel_rfl) (by kernel_rfl) (by kernel_rfl) (fun _ _ _ h => h) (Or.inl ⟨by rfl, ?yv11⟩) (by assumption) ?rv11
        case yv11 => (intro w hSw; (try dsimp only at hSw); go_simp <;> with_reducible rfl)
        try simp only [Act.put, List.setIfInBounds_toArray, List.set_cons_zero, List.set_cons_succ]
        refine wpAnyH_takeD (i := 12) (d := 28) (v := ?v12) rfl rfl (by kernel_rfl) (by kernel_rfl) (by kernel_rfl) (fun _ _ _ h => h) (Or.inl ⟨by rfl, ?yv12⟩) (by assumption) ?rv12
        case yv12 => (intro w hSw; (try dsimp only at hSw); go_simp <;> with_reducible rfl)
        try simp only [Act.put, List.setIfInBounds_toArray, List.set_cons_zero, List.set_cons_succ]
        refine wpAnyH_skips (by kernel_rfl) (fun _ _ _ _ h => h) (by assumption) [(13, 29), (14, 30), (15, 31), (16, 32), (17, 33), (18, 34), (19, 35), (20, 36), (21, 37), (22, 38), (23, 39)] 1 _ _ _ rfl (by kernel_rfl) ?_
        simp only [skipAct, skipListed, Act.put, List.setIfInBounds_toArray, List.set_cons_zero, List.set_cons_succ]
        refine wpAnyH_takeD (i := 24) (d := 40) (v := ?v24) rfl rfl (by kernel_rfl) (by kernel_rfl) (by kernel_rfl) (fun _ _ _ h => h) (Or.inl ⟨by rfl, ?yv24⟩) (by assumption) ?rv24
        case yv24 => (intro w hSw; (try dsimp only at hSw); go_simp <;> with_reducible rfl)
        try simp only [Act.put, List.setIfInBounds_toArray, List.set_cons_zero, List.set_cons_succ]
        refine wpAnyH_done (by kernel_rfl) ?_ _
        have HKP := Lib.hid hkeep
        clear hkeep c0 c1 c2 c3 c4 c5 d0 d1 d2 d3 d4 d5 KEEP
        go_wp2_with fail
        go_ret
        exact ⟨by rw [HF.out]; rfl, bnext HBW.out HKP.out.2.2.2.2.2.2.2.2.2.2.2.2⟩
      rw [hs] at HSM
      by_cases hcr : cr1 = cr2
      · subst hcr
        have HS : Hid (∀ j (h : j < a.length) (h2 : j < b.length), j < k + 1 → Ns.same a[j].ch b[j].ch = true ∧ a[j].cr = b[j].cr) := fun j h h2 hj => by
          rcases Nat.lt_or_ge j k with h' | h'
          · exact hn.out j h h2 h'
          · obtain rfl : j = k := by omega
            exact ⟨hs, HC1.out.trans HC2.out.symm⟩
        go_upto_region 6 with fail
        go_region_held_law (fun W' => (W'.cell? ⟨x1, o1 + k * 6, none⟩ = some (.int .i64 a[k].ch.dev) ∧ W'.cell? ⟨x1, o1 + k * 6 + 1, none⟩ = some (.int .i64 a[k].ch.id) ∧ W'.cell? ⟨x1, o1 + k * 6 + 2, none⟩ = some (.int .i64 a[k].ch.fid) ∧ W'.cell? ⟨x1, o1 + k * 6 + 3, none⟩ = some (.string (T a[k].ch.path)) ∧ W'.cell? ⟨x1, o1 + k * 6 + 4, none⟩ = some (.string (T a[k].ch.name)) ∧ W'.cell? ⟨x1, o1 + k * 6 + 5, none⟩ = some (.bool cr1) ∧ W'.cell? ⟨x2, o2 + k * 6, none⟩ = some (.int .i64 b[k].ch.dev) ∧ W'.cell? ⟨x2, o2 + k * 6 + 1, none⟩ = some (.int .i64 b[k].ch.id) ∧ W'.cell? ⟨x2, o2 + k * 6 + 2, none⟩ = some (.int .i64 b[k].ch.fid) ∧ W'.cell? ⟨x2, o2 + k * 6 + 3, none⟩ = some (.string (T b[k].ch.path)) ∧ W'.cell? ⟨x2, o2 + k * 6 + 4, none⟩ = some (.string (T b[k].ch.name)) ∧ W'.cell? ⟨x2, o2 + k * 6 + 5, none⟩ = some (.bool cr1) ∧ Below wr.heap.size wr W')) (first | assumption | (refine KEEP _ ?_; (repeat' (first | exact HBR.out | (with_reducible refine below_drew1 ?_) | (with_reducible refine Below.setCell ?_ ?_ _) | (with_reducible refine Below.alloc ?_ ?_ _))) <;> (simp <;> omega))) (first | (go_at_call 48; refine (HSM.out _ (by assumption)).mono ?_; rintro e w' ⟨rfl, hkeep⟩))
        have HKP := Lib.hid hkeep
        clear hkeep c0 c1 c2 c3 c4 c5 d0 d1 d2 d3 d4 d5 KEEP
        go_wp2_with fail
        go_roundw
        case rel => exact ⟨k + 1, by omega, by go_num, HS, bnext HBW.out HKP.out.2.2.2.2.2.2.2.2.2.2.2.2⟩
        case measure => simp [intOf]; omega
      · have HF := Lib.hid (HNO.out (fun h => hcr (HC1.out.symm.trans ((h.2 k hlt hlt2).2.trans HC2.out))))
        obtain rfl : cr1 = !cr2 := by cases cr1 <;> cases cr2 <;> first | rfl | exact absurd rfl hcr
        clear hcr
        go_upto_region 6 with fail
        go_region_held_law (fun W' => (W'.cell? ⟨x1, o1 + k * 6, none⟩ = some (.int .i64 a[k].ch.dev) ∧ W'.cell? ⟨x1, o1 + k * 6 + 1, none⟩ = some (.int .i64 a[k].ch.id) ∧ W'.cell? ⟨x1, o1 + k * 6 + 2, none⟩ = some (.int .i64 a[k].ch.fid) ∧ W'.cell? ⟨x1, o1 + k * 6 + 3, none⟩ = some (.string (T a[k].ch.path)) ∧ W'.cell? ⟨x1, o1 + k * 6 + 4, none⟩ = some (.string (T a[k].ch.name)) ∧ W'.cell? ⟨x1, o1 + k * 6 + 5, none⟩ = some (.bool (!cr2)) ∧ W'.cell? ⟨x2, o2 + k * 6, none⟩ = some (.int .i64 b[k].ch.dev) ∧ W'.cell? ⟨x2, o2 + k * 6 + 1, none⟩ = some (.int .i64 b[k].ch.id) ∧ W'.cell? ⟨x2, o2 + k * 6 + 2, none⟩ = some (.int .i64 b[k].ch.fid) ∧ W'.cell? ⟨x2, o2 + k * 6 + 3, none⟩ = some (.string (T b[k].ch.path)) ∧ W'.cell? ⟨x2, o2 + k * 6 + 4, none⟩ = some (.string (T b[k].ch.name)) ∧ W'.cell? ⟨x2, o2 + k * 6 + 5, none⟩ = some (.bool cr2) ∧ Below wr.heap.size wr W')) (first | assumption | (refine KEEP _ ?_; (repeat' (first | exact HBR.out | (with_reducible refine below_drew1 ?_) | (with_reducible refine Below.setCell ?_ ?_ _) | (with_reducible refine Below.alloc ?_ ?_ _))) <;> (simp <;> omega))) (first | (go_at_call 48; refine (HSM.out _ (by assumption)).mono ?_; rintro e w' ⟨rfl, hkeep⟩))
        have HKP := Lib.hid hkeep
        clear hkeep c0 c1 c2 c3 c4 c5 d0 d1 d2 d3 d4 d5 KEEP
        go_wp2_with fail
        go_ret
        exact ⟨by rw [HF.out]; rfl, bnext HBW.out HKP.out.2.2.2.2.2.2.2.2.2.2.2.2⟩
    · obtain rfl : k = a.length := by omega
      have HF := Lib.hid (HY.out (fun j h h2 => hn.out j h h2 h))
      go_wp2_with fail
      go_ret
      exact ⟨by rw [HF.out]; rfl, HBW.out⟩
end Go.Proofs.Ytganenaaglfdnaa
