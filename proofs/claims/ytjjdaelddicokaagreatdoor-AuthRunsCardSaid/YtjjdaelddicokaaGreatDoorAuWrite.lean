/- What auth.Write returns. Conditions: keys and texts of at most 1000; at most 10^6 steps. -/
import Derived.Test.YtjjdaelddicokaaGreatDoorAuRead
import Derived.Test.YtjjdaelddicokaaGreatDoorSkips
import Derived.Deep.CutBlock
set_option linter.unusedVariables false
set_option linter.unusedSimpArgs false
namespace Go.Proofs.YtjjdaelddicokaaGreatDoor
open Go.RowKit
open Au (Att Cnv)
theorem alloc_keepA {W : World} {g : Nat} {x o : Obj} (h : W.heap[g]? = some x) : (W.alloc o).heap[g]? = some x := (Lib.alloc_old _ _ _ (row_ltA h)).trans h
def behind : Nat → Code → Code
  | 0, c => c
  | n + 1, .seq _ b => behind n b
  | _ + 1, c => c
/-- What Write hands back. -/
def WrSays (w : World) (R : Cnv × Int) (l : List Att) (e : Ending) (w' : World) : Prop :=
  ∃ a n k, e = .returned (.tuple #[.agg #[.int .i64 R.1.id, .string (T R.1.proto), .int .i64 R.1.role, .int .i64 R.1.phase, .int .i64 R.1.step, (.slice a n k), .string (T R.1.own), .string (T R.1.peer), .string (T R.1.user), .int .i64 R.1.err], .int .i64 R.2]) ∧ Atts w' (.slice a n k) l ∧ (∀ q, a = some q → w.heap.size ≤ q.block) ∧ Below w.heap.size w w'
/-- The two boxes that the test reads. -/
abbrev WxS (W0 W : World) (g2 g6 : Nat) (c : Cnv) (p : List UInt8) (kv : Value) : Prop :=
  W.cell? ⟨g2, 0, none⟩ = some (.int .i64 c.id) ∧ W.cell? ⟨g2, 1, none⟩ = some (.string (T c.proto)) ∧ W.cell? ⟨g2, 2, none⟩ = some (.int .i64 c.role) ∧ W.cell? ⟨g2, 3, none⟩ = some (.int .i64 c.phase) ∧ W.cell? ⟨g2, 4, none⟩ = some (.int .i64 c.step) ∧ W.cell? ⟨g2, 5, none⟩ = some (kv) ∧ W.cell? ⟨g2, 6, none⟩ = some (.string (T c.own)) ∧ W.cell? ⟨g2, 7, none⟩ = some (.string (T c.peer)) ∧ W.cell? ⟨g2, 8, none⟩ = some (.string (T c.user)) ∧ W.cell? ⟨g2, 9, none⟩ = some (.int .i64 c.err) ∧ W.cell? ⟨g6, 0, none⟩ = some (.int .i64 c.id) ∧ W.cell? ⟨g6, 1, none⟩ = some (.string (T c.proto)) ∧ W.cell? ⟨g6, 2, none⟩ = some (.int .i64 c.role) ∧ W.cell? ⟨g6, 3, none⟩ = some (.int .i64 c.phase) ∧ W.cell? ⟨g6, 4, none⟩ = some (.int .i64 c.step) ∧ W.cell? ⟨g6, 5, none⟩ = some (kv) ∧ W.cell? ⟨g6, 6, none⟩ = some (.string (T c.own)) ∧ W.cell? ⟨g6, 7, none⟩ = some (.string (T p)) ∧ W.cell? ⟨g6, 8, none⟩ = some (.string (T c.user)) ∧ W.cell? ⟨g6, 9, none⟩ = some (.int .i64 c.err) ∧ Below W0.heap.size W0 W
theorem wx_s {W0 W : World} {g2 g6 : Nat} {t2 t6 : TypeId} {c : Cnv} {p : List UInt8} {kv : Value} (h2 : W0.heap[g2]? = some (.cells #[.int .i64 c.id, .string (T c.proto), .int .i64 c.role, .int .i64 c.phase, .int .i64 c.step, kv, .string (T c.own), .string (T c.peer), .string (T c.user), .int .i64 c.err] t2 (0, 0))) (h6 : W0.heap[g6]? = some (.cells #[.int .i64 c.id, .string (T c.proto), .int .i64 c.role, .int .i64 c.phase, .int .i64 c.step, kv, .string (T c.own), .string (T p), .string (T c.user), .int .i64 c.err] t6 (0, 0))) (hb : Below W0.heap.size W0 W) : WxS W0 W g2 g6 c p kv := by
  obtain ⟨⟨x0, x1, x2, x3, x4, x5, x6, x7, x8, x9⟩, _⟩ := cv_readsZ ((hb.block _ (row_ltA h2)).trans h2)
  obtain ⟨⟨z0, z1, z2, z3, z4, z5, z6, z7, z8, z9⟩, _⟩ := cv_readsZ ((hb.block _ (row_ltA h6)).trans h6)
  exact ⟨x0, x1, x2, x3, x4, x5, x6, x7, x8, x9, z0, z1, z2, z3, z4, z5, z6, z7, z8, z9, hb⟩
theorem WxS.bel {W0 W : World} {g2 g6 : Nat} {c : Cnv} {p : List UInt8} {kv : Value} (h : WxS W0 W g2 g6 c p kv) : Below W0.heap.size W0 W := h.2.2.2.2.2.2.2.2.2.2.2.2.2.2.2.2.2.2.2.2
/-- The test of Write fails. -/
def wbad (c : Cnv) (p s : List UInt8) : Bool := (decide (0 ≤ Au.carries c c.step) && !decide (p.length = 32)) || !decide (Au.msg { c with peer := p } c.step = s)
set_option maxRecDepth 100000 in
set_option maxHeartbeats 16000000 in
theorem wr7 (c : Cnv) (p s : List UInt8) (ao : Option Addr) (m cp : Nat) (w W : World) (HR2 : Hid (W.heap[w.heap.size]? = some (.cells #[.int .i64 c.id, .string (T c.proto), .int .i64 c.role, .int .i64 c.phase, .int .i64 c.step, (.slice ao m cp), .string (T c.own), .string (T c.peer), .string (T c.user), .int .i64 c.err] 25 (0, 0)))) (HR4 : Hid (W.heap[w.heap.size + 1]? = some (.cells #[.int .i64 0, .string (T []), .int .i64 0, .int .i64 0, .int .i64 0, .slice none 0 0, .string (T []), .string (T []), .string (T []), .int .i64 0] 25 (0, 0)))) (HR6 : Hid (W.heap[w.heap.size + 2]? = some (.cells #[.int .i64 c.id, .string (T c.proto), .int .i64 c.role, .int .i64 c.phase, .int .i64 c.step, (.slice ao m cp), .string (T c.own), .string (T p), .string (T c.user), .int .i64 c.err] 25 (0, 0)))) (HAT : Hid (Atts W (.slice ao m cp) c.key)) (HFC : Hid (Fine c)) (HFD : Hid (Fine { c with peer := p })) (HKI : Hid (KIn W)) (HB : Hid (Below w.heap.size w W)) (HST : Hid (0 ≤ c.step ∧ c.step ≤ 1000000)) (HNE : Hid (∀ q, ao = some q → c.key ≠ [] → q.block < w.heap.size))
    (R0 : Cnv × Int) (HR0 : Hid (R0 = if wbad c p s = true then ({ c with phase := 4, err := 28 }, 28) else (Au.settled { c with peer := p, step := c.step + 1 }, 0)))
    (u0 u3 u5 u7 u8 u9 u10 u11 u12 u13 u14 u15 u16 u17 u18 u19 u20 u21 u22 u23 u24 u25 u26 u27 u28 u29 u30 u31 u32 u33 u34 u35 u36 u37 u38 u39 u40 u41 u42 u43 u44 u45 u46 u47 u48 u49 u50 u51 u52 u53 u54 u55 u56 u57 u58 u59 u60 u61 u62 u63 u64 u65 : Value) (C0 : Code) (hC0 : ((Tryz.f12.body.map (behind 4)).getD .skip) = C0) :
    Code.wp Tryz.prog C0 (bodyPost Tryz.prog Tryz.f12 (WrSays w R0 c.key)) ⟨(List.toArray (u0 :: .string (T s) :: .pointer (some ⟨w.heap.size, 0, none⟩) :: u3 :: .pointer (some ⟨w.heap.size + 1, 0, none⟩) :: u5 :: .pointer (some ⟨w.heap.size + 2, 0, none⟩) :: u7 :: u8 :: u9 :: u10 :: u11 :: u12 :: u13 :: u14 :: u15 :: u16 :: u17 :: u18 :: u19 :: u20 :: u21 :: u22 :: u23 :: u24 :: u25 :: u26 :: u27 :: u28 :: u29 :: u30 :: u31 :: u32 :: u33 :: u34 :: u35 :: u36 :: u37 :: u38 :: u39 :: u40 :: u41 :: u42 :: u43 :: u44 :: u45 :: u46 :: u47 :: u48 :: u49 :: u50 :: u51 :: u52 :: u53 :: u54 :: u55 :: u56 :: u57 :: u58 :: u59 :: u60 :: u61 :: u62 :: u63 :: u64 :: u65 :: [])), []⟩ W := by
  subst hC0
  conv => arg 2; whnf
  go_upto_region 7 with fail
  go_cut [54] (fun t w' => t = .bool (wbad c p s) ∧ Hid (Below W.heap.size W w'))
  case first =>
    repeat (rename (∀ (a : Act) (w : World), Code.wp _ _ _ a w → _) => ax; clear ax)
    have HSD : Hid (WxS W W.drew w.heap.size (w.heap.size + 2) c p (.slice ao m cp)) := wx_s HR2.out HR6.out (below_drew1 (Below.refl _ _))
    obtain ⟨at_, hat⟩ : ∃ x, Au.carries c c.step = x := ⟨_, rfl⟩
    have HCA := Lib.hid (fun (W' : World) (h : WxS W W' w.heap.size (w.heap.size + 2) c p (.slice ao m cp)) => show Calls Tryz.prog 37 #[.agg #[.int .i64 c.id, .string (T c.proto), .int .i64 c.role, .int .i64 c.phase, .int .i64 c.step, (.slice ao m cp), .string (T c.own), .string (T c.peer), .string (T c.user), .int .i64 c.err], .int .i64 c.step] W' fun e w' => e = .returned (.int .i64 at_) ∧ WxS W w' w.heap.size (w.heap.size + 2) c p (.slice ao m cp) from (carries_any c ao m cp c.step W' (HAT.out.below h.bel) HFC.out).mono fun e w' h' => ⟨by rw [← hat]; exact h'.1, wx_s HR2.out HR6.out (bnext h.bel h'.2)⟩)
    obtain ⟨FB, hFB⟩ : ∃ b, wbad c p s = b := ⟨_, rfl⟩
    have hbad : wbad c p s = ((decide (0 ≤ at_) && !decide (p.length = 32)) || !decide (Au.msg { c with peer := p } c.step = s)) := by unfold wbad; rw [hat]
    by_cases hb : 0 ≤ at_ ∧ ¬ p.length = 32
    · have HFB := Lib.hid (show wbad c p s = true from by rw [hbad, decide_eq_true hb.1, decide_eq_false hb.2]; rfl)
      obtain ⟨ha, hpl⟩ := hb
      have k1 : ((p.length : Int) != 32) = true := by rw [bne_iff_ne]; omega
      clear hFB hbad hpl hat
      go_upto_region 7 with fail
      refine wp_region_held_drew (S := (fun W' => WxS W W' w.heap.size (w.heap.size + 2) c p (.slice ao m cp))) (by kernel_rfl) HSD.out (fun hHeld => ?_)
      refine wpAnyH_takeD (i := 0) (d := 34) (v := ?vb0) rfl rfl (by kernel_rfl) (by kernel_rfl) (by kernel_rfl) (fun _ _ _ h => h) (Or.inl ⟨by rfl, ?yvb0⟩) (by assumption) ?rvb0
      case yvb0 => (intro w hSw; (try dsimp only at hSw); go_simp <;> with_reducible rfl)
      try simp only [Act.put, List.setIfInBounds_toArray, List.set_cons_zero, List.set_cons_succ]
      refine wpAnyH_takeD (i := 1) (d := 35) (v := ?vb1) rfl rfl (by kernel_rfl) (by kernel_rfl) (by kernel_rfl) (fun _ _ _ h => h) (Or.inl ⟨by rfl, ?yvb1⟩) (by assumption) ?rvb1
      case yvb1 => (intro w hSw; (try dsimp only at hSw); go_simp <;> with_reducible rfl)
      try simp only [Act.put, List.setIfInBounds_toArray, List.set_cons_zero, List.set_cons_succ]
      refine wpAnyH_takeD (i := 2) (d := 36) (v := ?vb2) rfl rfl (by kernel_rfl) (by kernel_rfl) (by kernel_rfl) (fun _ _ _ h => h) (Or.inl ⟨by rfl, ?yvb2⟩) (by assumption) ?rvb2
      case yvb2 => (intro w hSw; (try dsimp only at hSw); go_simp <;> with_reducible rfl)
      try simp only [Act.put, List.setIfInBounds_toArray, List.set_cons_zero, List.set_cons_succ]
      refine wpAnyH_ready (rs := [3]) (by kernel_rfl) (by simp) ?_
      refine AllReadyH.cons rfl (fun K hK => ?_) AllReadyH.nil
      go_simp
      go_wp2_with (go_at_call 37; (refine (HCA.out _ (by assumption)).mono ?_); rintro e wx ⟨rfl, hkeep⟩)
      refine hK.out _ _ hkeep (fun hHeld => ?_)
      clear hK K
      try simp only [Act.put, List.setIfInBounds_toArray, List.set_cons_zero, List.set_cons_succ]
      refine wpAnyH_takeD (i := 4) (d := 38) (v := ?vb4) rfl rfl (by kernel_rfl) (by kernel_rfl) (by kernel_rfl) (fun _ _ _ h => h) (Or.inl ⟨by rfl, ?yvb4⟩) (by assumption) ?rvb4
      case yvb4 => (intro w hSw; (try dsimp only at hSw); go_simp <;> with_reducible rfl)
      try simp only [Act.put, List.setIfInBounds_toArray, List.set_cons_zero, List.set_cons_succ]
      refine wpAnyH_takeD (i := 5) (d := 39) (v := ?vb5) rfl rfl (by kernel_rfl) (by kernel_rfl) (by kernel_rfl) (fun _ _ _ h => h) (Or.inl ⟨by rfl, ?yvb5⟩) (by assumption) ?rvb5
      case yvb5 => (intro w hSw; (try dsimp only at hSw); go_simp <;> with_reducible rfl)
      try simp only [Act.put, List.setIfInBounds_toArray, List.set_cons_zero, List.set_cons_succ]
      refine wpAnyH_takeD (i := 6) (d := 40) (v := ?vb6) rfl rfl (by kernel_rfl) (by kernel_rfl) (by kernel_rfl) (fun _ _ _ h => h) (Or.inl ⟨by rfl, ?yvb6⟩) (by assumption) ?rvb6
      case yvb6 => (intro w hSw; (try dsimp only at hSw); go_simp <;> with_reducible rfl)
      try simp only [Act.put, List.setIfInBounds_toArray, List.set_cons_zero, List.set_cons_succ]
      refine wpAnyH_takeD (i := 7) (d := 41) (v := ?vb7) rfl rfl (by kernel_rfl) (by kernel_rfl) (by kernel_rfl) (fun _ _ _ h => h) (Or.inl ⟨by rfl, ?yvb7⟩) (by assumption) ?rvb7
      case yvb7 => (intro w hSw; (try dsimp only at hSw); go_simp <;> with_reducible rfl)
      try simp only [Act.put, List.setIfInBounds_toArray, List.set_cons_zero, List.set_cons_succ]
      refine wpAnyH_takeD (i := 8) (d := 42) (v := ?vb8) rfl rfl (by kernel_rfl) (by kernel_rfl) (by kernel_rfl) (fun _ _ _ h => h) (Or.inl ⟨by rfl, ?yvb8⟩) (by assumption) ?rvb8
      case yvb8 => (intro w hSw; (try dsimp only at hSw); go_simp <;> with_reducible rfl)
      try simp only [Act.put, List.setIfInBounds_toArray, List.set_cons_zero, List.set_cons_succ]
      refine wpAnyH_takeD (i := 9) (d := 43) (v := ?vb9) rfl rfl (by kernel_rfl) (by kernel_rfl) (by kernel_rfl) (fun _ _ _ h => h) (Or.inl ⟨by rfl, ?yvb9⟩) (by assumption) ?rvb9
      case yvb9 => (intro w hSw; (try dsimp only at hSw); go_simp <;> with_reducible rfl)
      try simp only [Act.put, List.setIfInBounds_toArray, List.set_cons_zero, List.set_cons_succ]
      refine wpAnyH_takeD (i := 10) (d := 44) (v := ?vb10) rfl rfl (by kernel_rfl) (by kernel_rfl) (by kernel_rfl) (fun _ _ _ h => h) (Or.inl ⟨by rfl, ?yvb10⟩) (by assumption) ?rvb10
      case yvb10 => (intro w hSw; (try dsimp only at hSw); go_simp <;> with_reducible rfl)
      try simp only [Act.put, List.setIfInBounds_toArray, List.set_cons_zero, List.set_cons_succ]
      refine wpAnyH_takeD (i := 11) (d := 45) (v := ?vb11) rfl rfl (by kernel_rfl) (by kernel_rfl) (by kernel_rfl) (fun _ _ _ h => h) (Or.inl ⟨by rfl, ?yvb11⟩) (by assumption) ?rvb11
      case yvb11 => (intro w hSw; (try dsimp only at hSw); go_simp <;> with_reducible rfl)
      try simp only [Act.put, List.setIfInBounds_toArray, List.set_cons_zero, List.set_cons_succ]
      refine wpAnyH_skips (by kernel_rfl) (fun _ _ _ _ h => h) (by assumption) [(12, 46), (13, 47), (14, 48), (15, 49), (16, 50), (17, 51), (18, 52), (19, 53)] 1 _ _ _ rfl (by kernel_rfl) ?_
      simp only [skipAct, skipListed, Act.put, List.setIfInBounds_toArray, List.set_cons_zero, List.set_cons_succ]
      refine wpAnyH_takeD (i := 20) (d := 54) (v := ?vb20) rfl rfl (by kernel_rfl) (by kernel_rfl) (by kernel_rfl) (fun _ _ _ h => h) (Or.inl ⟨by rfl, ?yvb20⟩) (by assumption) ?rvb20
      case yvb20 => (intro w hSw; (try dsimp only at hSw); go_simp <;> with_reducible rfl)
      try simp only [Act.put, List.setIfInBounds_toArray, List.set_cons_zero, List.set_cons_succ]
      refine wpAnyH_done (by kernel_rfl) ?_ _
      go_wp2_with fail
      go_meet
      exact ⟨by (rw [HFB.out]; try rfl), Lib.hid (WxS.bel hkeep)⟩
    by_cases ha : 0 ≤ at_
    · have hpl : p.length = 32 := Decidable.byContradiction fun h => hb ⟨ha, h⟩
      have k1 : ((p.length : Int) != 32) = false := by rw [bne_eq_false_iff_eq]; omega
      have hlead : (decide (0 ≤ at_) && !decide (p.length = 32)) = false := by rw [decide_eq_true hpl]; simp
      clear hb hpl
      by_cases hp1 : c.proto = Au.sChal
      · obtain ⟨M, hM⟩ : ∃ M, Au.msgChal { c with peer := p } c.step = M := ⟨_, rfl⟩
        have hmsg : Au.msg { c with peer := p } c.step = M := by rw [← hM]; unfold Au.msg; rw [if_pos hp1]
        have HMS := Lib.hid (fun (W' : World) (h : WxS W W' w.heap.size (w.heap.size + 2) c p (.slice ao m cp)) => (msgs_chal { c with peer := p } ao m cp W' hp1).mono fun e w' h' => (⟨h'.1, wx_s HR2.out HR6.out (bnext h.bel h'.2)⟩ : e = .returned (.func (.func 44) #[.agg #[.int .i64 c.id, .string (T c.proto), .int .i64 c.role, .int .i64 c.phase, .int .i64 c.step, (.slice ao m cp), .string (T c.own), .string (T p), .string (T c.user), .int .i64 c.err]] #[]) ∧ WxS W w' w.heap.size (w.heap.size + 2) c p (.slice ao m cp)))
        have HMG := Lib.hid (fun (W' : World) (h : WxS W W' w.heap.size (w.heap.size + 2) c p (.slice ao m cp)) => show Calls Tryz.prog 44 #[.agg #[.int .i64 c.id, .string (T c.proto), .int .i64 c.role, .int .i64 c.phase, .int .i64 c.step, (.slice ao m cp), .string (T c.own), .string (T p), .string (T c.user), .int .i64 c.err], .int .i64 c.step] W' fun e w' => e = .returned (.string (T M)) ∧ WxS W w' w.heap.size (w.heap.size + 2) c p (.slice ao m cp) from (tchal_any { c with peer := p } (.slice ao m cp) c.step W' (HAT.out.below h.bel) HFD.out (HKI.out.below h.bel)).mono fun e w' h' => ⟨by rw [← hM]; exact h'.1, wx_s HR2.out HR6.out (bnext h.bel h'.2)⟩)
        rw [hmsg, hlead, Bool.false_or] at hbad
        clear hM hmsg hat hFB hp1
        by_cases hs : M = s
        · have HFB := Lib.hid (show wbad c p s = false from by rw [hbad, decide_eq_true hs]; rfl)
          have k5 := seq_yes hs
          clear hs hbad
          go_region_held_law (fun W' => WxS W W' w.heap.size (w.heap.size + 2) c p (.slice ao m cp)) (first | (with_reducible assumption) | (with_reducible exact HSD.out)) (first | (go_at_call 37; (with_reducible refine (HCA.out _ (by assumption)).mono ?_); rintro e wx ⟨rfl, hkeep⟩) | (go_at_call 27; (with_reducible refine (HMS.out _ (by assumption)).mono ?_); rintro e wx ⟨rfl, hkeep⟩) | (go_at_call 44; (with_reducible refine (HMG.out _ (by assumption)).mono ?_); rintro e wx ⟨rfl, hkeep⟩))
          all_goals
            go_wp2_with fail
            go_meet
            exact ⟨by (rw [HFB.out]; try rfl), Lib.hid (WxS.bel hkeep)⟩
        · have HFB := Lib.hid (show wbad c p s = true from by rw [hbad, decide_eq_false hs]; rfl)
          have k5 := seq_no hs
          clear hs hbad
          go_region_held_law (fun W' => WxS W W' w.heap.size (w.heap.size + 2) c p (.slice ao m cp)) (first | (with_reducible assumption) | (with_reducible exact HSD.out)) (first | (go_at_call 37; (with_reducible refine (HCA.out _ (by assumption)).mono ?_); rintro e wx ⟨rfl, hkeep⟩) | (go_at_call 27; (with_reducible refine (HMS.out _ (by assumption)).mono ?_); rintro e wx ⟨rfl, hkeep⟩) | (go_at_call 44; (with_reducible refine (HMG.out _ (by assumption)).mono ?_); rintro e wx ⟨rfl, hkeep⟩))
          all_goals
            go_wp2_with fail
            go_meet
            exact ⟨by (rw [HFB.out]; try rfl), Lib.hid (WxS.bel hkeep)⟩
      by_cases hp2 : c.proto = Au.sMutual
      · obtain ⟨M, hM⟩ : ∃ M, Au.msgMutual { c with peer := p } c.step = M := ⟨_, rfl⟩
        have hmsg : Au.msg { c with peer := p } c.step = M := by rw [← hM]; unfold Au.msg; rw [if_neg hp1, if_pos hp2]
        have HMS := Lib.hid (fun (W' : World) (h : WxS W W' w.heap.size (w.heap.size + 2) c p (.slice ao m cp)) => (msgs_mut { c with peer := p } ao m cp W' hp2).mono fun e w' h' => (⟨h'.1, wx_s HR2.out HR6.out (bnext h.bel h'.2)⟩ : e = .returned (.func (.func 45) #[.agg #[.int .i64 c.id, .string (T c.proto), .int .i64 c.role, .int .i64 c.phase, .int .i64 c.step, (.slice ao m cp), .string (T c.own), .string (T p), .string (T c.user), .int .i64 c.err]] #[]) ∧ WxS W w' w.heap.size (w.heap.size + 2) c p (.slice ao m cp)))
        have HMG := Lib.hid (fun (W' : World) (h : WxS W W' w.heap.size (w.heap.size + 2) c p (.slice ao m cp)) => show Calls Tryz.prog 45 #[.agg #[.int .i64 c.id, .string (T c.proto), .int .i64 c.role, .int .i64 c.phase, .int .i64 c.step, (.slice ao m cp), .string (T c.own), .string (T p), .string (T c.user), .int .i64 c.err], .int .i64 c.step] W' fun e w' => e = .returned (.string (T M)) ∧ WxS W w' w.heap.size (w.heap.size + 2) c p (.slice ao m cp) from (tmut_any { c with peer := p } (.slice ao m cp) c.step W' (HAT.out.below h.bel) HFD.out (HKI.out.below h.bel)).mono fun e w' h' => ⟨by rw [← hM]; exact h'.1, wx_s HR2.out HR6.out (bnext h.bel h'.2)⟩)
        rw [hmsg, hlead, Bool.false_or] at hbad
        clear hM hmsg hat hFB hp2
        by_cases hs : M = s
        · have HFB := Lib.hid (show wbad c p s = false from by rw [hbad, decide_eq_true hs]; rfl)
          have k5 := seq_yes hs
          clear hs hbad
          go_region_held_law (fun W' => WxS W W' w.heap.size (w.heap.size + 2) c p (.slice ao m cp)) (first | (with_reducible assumption) | (with_reducible exact HSD.out)) (first | (go_at_call 37; (with_reducible refine (HCA.out _ (by assumption)).mono ?_); rintro e wx ⟨rfl, hkeep⟩) | (go_at_call 27; (with_reducible refine (HMS.out _ (by assumption)).mono ?_); rintro e wx ⟨rfl, hkeep⟩) | (go_at_call 45; (with_reducible refine (HMG.out _ (by assumption)).mono ?_); rintro e wx ⟨rfl, hkeep⟩))
          all_goals
            go_wp2_with fail
            go_meet
            exact ⟨by (rw [HFB.out]; try rfl), Lib.hid (WxS.bel hkeep)⟩
        · have HFB := Lib.hid (show wbad c p s = true from by rw [hbad, decide_eq_false hs]; rfl)
          have k5 := seq_no hs
          clear hs hbad
          go_region_held_law (fun W' => WxS W W' w.heap.size (w.heap.size + 2) c p (.slice ao m cp)) (first | (with_reducible assumption) | (with_reducible exact HSD.out)) (first | (go_at_call 37; (with_reducible refine (HCA.out _ (by assumption)).mono ?_); rintro e wx ⟨rfl, hkeep⟩) | (go_at_call 27; (with_reducible refine (HMS.out _ (by assumption)).mono ?_); rintro e wx ⟨rfl, hkeep⟩) | (go_at_call 45; (with_reducible refine (HMG.out _ (by assumption)).mono ?_); rintro e wx ⟨rfl, hkeep⟩))
          all_goals
            go_wp2_with fail
            go_meet
            exact ⟨by (rw [HFB.out]; try rfl), Lib.hid (WxS.bel hkeep)⟩
      · obtain ⟨M, hM⟩ : ∃ M, Au.msgPlain { c with peer := p } c.step = M := ⟨_, rfl⟩
        have hmsg : Au.msg { c with peer := p } c.step = M := by rw [← hM]; unfold Au.msg; rw [if_neg hp1, if_neg hp2]
        have HMS := Lib.hid (fun (W' : World) (h : WxS W W' w.heap.size (w.heap.size + 2) c p (.slice ao m cp)) => (msgs_pln { c with peer := p } ao m cp W' hp1 hp2).mono fun e w' h' => (⟨h'.1, wx_s HR2.out HR6.out (bnext h.bel h'.2)⟩ : e = .returned (.func (.func 46) #[.agg #[.int .i64 c.id, .string (T c.proto), .int .i64 c.role, .int .i64 c.phase, .int .i64 c.step, (.slice ao m cp), .string (T c.own), .string (T p), .string (T c.user), .int .i64 c.err]] #[]) ∧ WxS W w' w.heap.size (w.heap.size + 2) c p (.slice ao m cp)))
        have HMG := Lib.hid (fun (W' : World) (h : WxS W W' w.heap.size (w.heap.size + 2) c p (.slice ao m cp)) => show Calls Tryz.prog 46 #[.agg #[.int .i64 c.id, .string (T c.proto), .int .i64 c.role, .int .i64 c.phase, .int .i64 c.step, (.slice ao m cp), .string (T c.own), .string (T p), .string (T c.user), .int .i64 c.err], .int .i64 c.step] W' fun e w' => e = .returned (.string (T M)) ∧ WxS W w' w.heap.size (w.heap.size + 2) c p (.slice ao m cp) from (tpln_any { c with peer := p } (.slice ao m cp) c.step W' (HAT.out.below h.bel) HFD.out (HKI.out.below h.bel)).mono fun e w' h' => ⟨by rw [← hM]; exact h'.1, wx_s HR2.out HR6.out (bnext h.bel h'.2)⟩)
        rw [hmsg, hlead, Bool.false_or] at hbad
        clear hM hmsg hat hFB hp1 hp2
        by_cases hs : M = s
        · have HFB := Lib.hid (show wbad c p s = false from by rw [hbad, decide_eq_true hs]; rfl)
          have k5 := seq_yes hs
          clear hs hbad
          go_region_held_law (fun W' => WxS W W' w.heap.size (w.heap.size + 2) c p (.slice ao m cp)) (first | (with_reducible assumption) | (with_reducible exact HSD.out)) (first | (go_at_call 37; (with_reducible refine (HCA.out _ (by assumption)).mono ?_); rintro e wx ⟨rfl, hkeep⟩) | (go_at_call 27; (with_reducible refine (HMS.out _ (by assumption)).mono ?_); rintro e wx ⟨rfl, hkeep⟩) | (go_at_call 46; (with_reducible refine (HMG.out _ (by assumption)).mono ?_); rintro e wx ⟨rfl, hkeep⟩))
          all_goals
            go_wp2_with fail
            go_meet
            exact ⟨by (rw [HFB.out]; try rfl), Lib.hid (WxS.bel hkeep)⟩
        · have HFB := Lib.hid (show wbad c p s = true from by rw [hbad, decide_eq_false hs]; rfl)
          have k5 := seq_no hs
          clear hs hbad
          go_region_held_law (fun W' => WxS W W' w.heap.size (w.heap.size + 2) c p (.slice ao m cp)) (first | (with_reducible assumption) | (with_reducible exact HSD.out)) (first | (go_at_call 37; (with_reducible refine (HCA.out _ (by assumption)).mono ?_); rintro e wx ⟨rfl, hkeep⟩) | (go_at_call 27; (with_reducible refine (HMS.out _ (by assumption)).mono ?_); rintro e wx ⟨rfl, hkeep⟩) | (go_at_call 46; (with_reducible refine (HMG.out _ (by assumption)).mono ?_); rintro e wx ⟨rfl, hkeep⟩))
          all_goals
            go_wp2_with fail
            go_meet
            exact ⟨by (rw [HFB.out]; try rfl), Lib.hid (WxS.bel hkeep)⟩
    · have ha1 : decide (0 ≤ at_) = false := decide_eq_false ha
      have hlead : (decide (0 ≤ at_) && !decide (p.length = 32)) = false := by rw [ha1]; rfl
      clear hb ha
      by_cases hp1 : c.proto = Au.sChal
      · obtain ⟨M, hM⟩ : ∃ M, Au.msgChal { c with peer := p } c.step = M := ⟨_, rfl⟩
        have hmsg : Au.msg { c with peer := p } c.step = M := by rw [← hM]; unfold Au.msg; rw [if_pos hp1]
        have HMS := Lib.hid (fun (W' : World) (h : WxS W W' w.heap.size (w.heap.size + 2) c p (.slice ao m cp)) => (msgs_chal { c with peer := p } ao m cp W' hp1).mono fun e w' h' => (⟨h'.1, wx_s HR2.out HR6.out (bnext h.bel h'.2)⟩ : e = .returned (.func (.func 44) #[.agg #[.int .i64 c.id, .string (T c.proto), .int .i64 c.role, .int .i64 c.phase, .int .i64 c.step, (.slice ao m cp), .string (T c.own), .string (T p), .string (T c.user), .int .i64 c.err]] #[]) ∧ WxS W w' w.heap.size (w.heap.size + 2) c p (.slice ao m cp)))
        have HMG := Lib.hid (fun (W' : World) (h : WxS W W' w.heap.size (w.heap.size + 2) c p (.slice ao m cp)) => show Calls Tryz.prog 44 #[.agg #[.int .i64 c.id, .string (T c.proto), .int .i64 c.role, .int .i64 c.phase, .int .i64 c.step, (.slice ao m cp), .string (T c.own), .string (T p), .string (T c.user), .int .i64 c.err], .int .i64 c.step] W' fun e w' => e = .returned (.string (T M)) ∧ WxS W w' w.heap.size (w.heap.size + 2) c p (.slice ao m cp) from (tchal_any { c with peer := p } (.slice ao m cp) c.step W' (HAT.out.below h.bel) HFD.out (HKI.out.below h.bel)).mono fun e w' h' => ⟨by rw [← hM]; exact h'.1, wx_s HR2.out HR6.out (bnext h.bel h'.2)⟩)
        rw [hmsg, hlead, Bool.false_or] at hbad
        clear hM hmsg hat hFB hp1
        by_cases hs : M = s
        · have HFB := Lib.hid (show wbad c p s = false from by rw [hbad, decide_eq_true hs]; rfl)
          have k5 := seq_yes hs
          clear hs hbad
          go_upto_region 7 with fail
          refine wp_region_held_drew (S := (fun W' => WxS W W' w.heap.size (w.heap.size + 2) c p (.slice ao m cp))) (by kernel_rfl) HSD.out (fun hHeld => ?_)
          refine wpAnyH_takeD (i := 0) (d := 34) (v := ?vc0) rfl rfl (by kernel_rfl) (by kernel_rfl) (by kernel_rfl) (fun _ _ _ h => h) (Or.inl ⟨by rfl, ?yvc0⟩) (by assumption) ?rvc0
          case yvc0 => (intro w hSw; (try dsimp only at hSw); go_simp <;> with_reducible rfl)
          try simp only [Act.put, List.setIfInBounds_toArray, List.set_cons_zero, List.set_cons_succ]
          refine wpAnyH_takeD (i := 1) (d := 35) (v := ?vc1) rfl rfl (by kernel_rfl) (by kernel_rfl) (by kernel_rfl) (fun _ _ _ h => h) (Or.inl ⟨by rfl, ?yvc1⟩) (by assumption) ?rvc1
          case yvc1 => (intro w hSw; (try dsimp only at hSw); go_simp <;> with_reducible rfl)
          try simp only [Act.put, List.setIfInBounds_toArray, List.set_cons_zero, List.set_cons_succ]
          refine wpAnyH_takeD (i := 2) (d := 36) (v := ?vc2) rfl rfl (by kernel_rfl) (by kernel_rfl) (by kernel_rfl) (fun _ _ _ h => h) (Or.inl ⟨by rfl, ?yvc2⟩) (by assumption) ?rvc2
          case yvc2 => (intro w hSw; (try dsimp only at hSw); go_simp <;> with_reducible rfl)
          try simp only [Act.put, List.setIfInBounds_toArray, List.set_cons_zero, List.set_cons_succ]
          refine wpAnyH_ready (rs := [3]) (by kernel_rfl) (by simp) ?_
          refine AllReadyH.cons rfl (fun K hK => ?_) AllReadyH.nil
          go_simp
          go_wp2_with (go_at_call 37; (refine (HCA.out _ (by assumption)).mono ?_); rintro e wx ⟨rfl, hkeep⟩)
          refine hK.out _ _ hkeep (fun hHeld => ?_)
          clear hK K
          try simp only [Act.put, List.setIfInBounds_toArray, List.set_cons_zero, List.set_cons_succ]
          refine wpAnyH_takeD (i := 4) (d := 38) (v := ?vc4) rfl rfl (by kernel_rfl) (by kernel_rfl) (by kernel_rfl) (fun _ _ _ h => h) (Or.inl ⟨by rfl, ?yvc4⟩) (by assumption) ?rvc4
          case yvc4 => (intro w hSw; (try dsimp only at hSw); go_simp <;> with_reducible rfl)
          try simp only [Act.put, List.setIfInBounds_toArray, List.set_cons_zero, List.set_cons_succ]
          refine wpAnyH_takeD (i := 5) (d := 39) (v := ?vc5) rfl rfl (by kernel_rfl) (by kernel_rfl) (by kernel_rfl) (fun _ _ _ h => h) (Or.inl ⟨by rfl, ?yvc5⟩) (by assumption) ?rvc5
          case yvc5 => (intro w hSw; (try dsimp only at hSw); go_simp <;> with_reducible rfl)
          try simp only [Act.put, List.setIfInBounds_toArray, List.set_cons_zero, List.set_cons_succ]
          refine wpAnyH_skips (by kernel_rfl) (fun _ _ _ _ h => h) (by assumption) [(6, 40), (7, 41), (8, 42), (9, 43)] 11 _ _ _ rfl (by kernel_rfl) ?_
          simp only [skipAct, skipListed, Act.put, List.setIfInBounds_toArray, List.set_cons_zero, List.set_cons_succ]
          refine wpAnyH_takeD (i := 10) (d := 44) (v := ?vc10) rfl rfl (by kernel_rfl) (by kernel_rfl) (by kernel_rfl) (fun _ _ _ h => h) (Or.inl ⟨by rfl, ?yvc10⟩) (by assumption) ?rvc10
          case yvc10 => (intro w hSw; (try dsimp only at hSw); go_simp <;> with_reducible rfl)
          try simp only [Act.put, List.setIfInBounds_toArray, List.set_cons_zero, List.set_cons_succ]
          refine wpAnyH_takeD (i := 11) (d := 45) (v := ?vc11) rfl rfl (by kernel_rfl) (by kernel_rfl) (by kernel_rfl) (fun _ _ _ h => h) (Or.inl ⟨by rfl, ?yvc11⟩) (by assumption) ?rvc11
          case yvc11 => (intro w hSw; (try dsimp only at hSw); go_simp <;> with_reducible rfl)
          try simp only [Act.put, List.setIfInBounds_toArray, List.set_cons_zero, List.set_cons_succ]
          refine wpAnyH_takeD (i := 12) (d := 46) (v := ?vc12) rfl rfl (by kernel_rfl) (by kernel_rfl) (by kernel_rfl) (fun _ _ _ h => h) (Or.inl ⟨by rfl, ?yvc12⟩) (by assumption) ?rvc12
          case yvc12 => (intro w hSw; (try dsimp only at hSw); go_simp <;> with_reducible rfl)
          try simp only [Act.put, List.setIfInBounds_toArray, List.set_cons_zero, List.set_cons_succ]
          refine wpAnyH_takeD (i := 13) (d := 47) (v := ?vc13) rfl rfl (by kernel_rfl) (by kernel_rfl) (by kernel_rfl) (fun _ _ _ h => h) (Or.inl ⟨by rfl, ?yvc13⟩) (by assumption) ?rvc13
          case yvc13 => (intro w hSw; (try dsimp only at hSw); go_simp <;> with_reducible rfl)
          try simp only [Act.put, List.setIfInBounds_toArray, List.set_cons_zero, List.set_cons_succ]
          refine wpAnyH_takeD (i := 15) (d := 49) (v := ?vc15) rfl rfl (by kernel_rfl) (by kernel_rfl) (by kernel_rfl) (fun _ _ _ h => h) (Or.inl ⟨by rfl, ?yvc15⟩) (by assumption) ?rvc15
          case yvc15 => (intro w hSw; (try dsimp only at hSw); go_simp <;> with_reducible rfl)
          try simp only [Act.put, List.setIfInBounds_toArray, List.set_cons_zero, List.set_cons_succ]
          refine wpAnyH_takeD (i := 16) (d := 50) (v := ?vc16) rfl rfl (by kernel_rfl) (by kernel_rfl) (by kernel_rfl) (fun _ _ _ h => h) (Or.inl ⟨by rfl, ?yvc16⟩) (by assumption) ?rvc16
          case yvc16 => (intro w hSw; (try dsimp only at hSw); go_simp <;> with_reducible rfl)
          try simp only [Act.put, List.setIfInBounds_toArray, List.set_cons_zero, List.set_cons_succ]
          refine wpAnyH_takeD (i := 18) (d := 52) (v := ?vc18) rfl rfl (by kernel_rfl) (by kernel_rfl) (by kernel_rfl) (fun _ _ _ h => h) (Or.inl ⟨by rfl, ?yvc18⟩) (by assumption) ?rvc18
          case yvc18 => (intro w hSw; (try dsimp only at hSw); go_simp <;> with_reducible rfl)
          try simp only [Act.put, List.setIfInBounds_toArray, List.set_cons_zero, List.set_cons_succ]
          refine wpAnyH_ready (rs := [14]) (by kernel_rfl) (by simp) ?_
          refine AllReadyH.cons rfl (fun K hK => ?_) AllReadyH.nil
          go_simp
          go_wp2_with (go_at_call 27; (refine (HMS.out _ (by assumption)).mono ?_); rintro e wx ⟨rfl, hkeep⟩)
          refine hK.out _ _ hkeep (fun hHeld => ?_)
          clear hK K
          try simp only [Act.put, List.setIfInBounds_toArray, List.set_cons_zero, List.set_cons_succ]
          refine wpAnyH_ready (rs := [17]) (by kernel_rfl) (by simp) ?_
          refine AllReadyH.cons rfl (fun K hK => ?_) AllReadyH.nil
          go_simp
          go_wp2_with (go_at_call 44; (refine (HMG.out _ (by assumption)).mono ?_); rintro e wx ⟨rfl, hkeep⟩)
          refine hK.out _ _ hkeep (fun hHeld => ?_)
          clear hK K
          try simp only [Act.put, List.setIfInBounds_toArray, List.set_cons_zero, List.set_cons_succ]
          refine wpAnyH_takeD (i := 19) (d := 53) (v := ?vc19) rfl rfl (by kernel_rfl) (by kernel_rfl) (by kernel_rfl) (fun _ _ _ h => h) (Or.inl ⟨by rfl, ?yvc19⟩) (by assumption) ?rvc19
          case yvc19 => (intro w hSw; (try dsimp only at hSw); go_simp <;> with_reducible rfl)
          try simp only [Act.put, List.setIfInBounds_toArray, List.set_cons_zero, List.set_cons_succ]
          refine wpAnyH_takeD (i := 20) (d := 54) (v := ?vc20) rfl rfl (by kernel_rfl) (by kernel_rfl) (by kernel_rfl) (fun _ _ _ h => h) (Or.inl ⟨by rfl, ?yvc20⟩) (by assumption) ?rvc20
          case yvc20 => (intro w hSw; (try dsimp only at hSw); go_simp <;> with_reducible rfl)
          try simp only [Act.put, List.setIfInBounds_toArray, List.set_cons_zero, List.set_cons_succ]
          refine wpAnyH_done (by kernel_rfl) ?_ _
          go_wp2_with fail
          go_meet
          exact ⟨by (rw [HFB.out]; try rfl), Lib.hid (WxS.bel hkeep)⟩
        · have HFB := Lib.hid (show wbad c p s = true from by rw [hbad, decide_eq_false hs]; rfl)
          have k5 := seq_no hs
          clear hs hbad
          go_upto_region 7 with fail
          refine wp_region_held_drew (S := (fun W' => WxS W W' w.heap.size (w.heap.size + 2) c p (.slice ao m cp))) (by kernel_rfl) HSD.out (fun hHeld => ?_)
          refine wpAnyH_takeD (i := 0) (d := 34) (v := ?vd0) rfl rfl (by kernel_rfl) (by kernel_rfl) (by kernel_rfl) (fun _ _ _ h => h) (Or.inl ⟨by rfl, ?yvd0⟩) (by assumption) ?rvd0
          case yvd0 => (intro w hSw; (try dsimp only at hSw); go_simp <;> with_reducible rfl)
          try simp only [Act.put, List.setIfInBounds_toArray, List.set_cons_zero, List.set_cons_succ]
          refine wpAnyH_takeD (i := 1) (d := 35) (v := ?vd1) rfl rfl (by kernel_rfl) (by kernel_rfl) (by kernel_rfl) (fun _ _ _ h => h) (Or.inl ⟨by rfl, ?yvd1⟩) (by assumption) ?rvd1
          case yvd1 => (intro w hSw; (try dsimp only at hSw); go_simp <;> with_reducible rfl)
          try simp only [Act.put, List.setIfInBounds_toArray, List.set_cons_zero, List.set_cons_succ]
          refine wpAnyH_takeD (i := 2) (d := 36) (v := ?vd2) rfl rfl (by kernel_rfl) (by kernel_rfl) (by kernel_rfl) (fun _ _ _ h => h) (Or.inl ⟨by rfl, ?yvd2⟩) (by assumption) ?rvd2
          case yvd2 => (intro w hSw; (try dsimp only at hSw); go_simp <;> with_reducible rfl)
          try simp only [Act.put, List.setIfInBounds_toArray, List.set_cons_zero, List.set_cons_succ]
          refine wpAnyH_ready (rs := [3]) (by kernel_rfl) (by simp) ?_
          refine AllReadyH.cons rfl (fun K hK => ?_) AllReadyH.nil
          go_simp
          go_wp2_with (go_at_call 37; (refine (HCA.out _ (by assumption)).mono ?_); rintro e wx ⟨rfl, hkeep⟩)
          refine hK.out _ _ hkeep (fun hHeld => ?_)
          clear hK K
          try simp only [Act.put, List.setIfInBounds_toArray, List.set_cons_zero, List.set_cons_succ]
          refine wpAnyH_takeD (i := 4) (d := 38) (v := ?vd4) rfl rfl (by kernel_rfl) (by kernel_rfl) (by kernel_rfl) (fun _ _ _ h => h) (Or.inl ⟨by rfl, ?yvd4⟩) (by assumption) ?rvd4
          case yvd4 => (intro w hSw; (try dsimp only at hSw); go_simp <;> with_reducible rfl)
          try simp only [Act.put, List.setIfInBounds_toArray, List.set_cons_zero, List.set_cons_succ]
          refine wpAnyH_takeD (i := 5) (d := 39) (v := ?vd5) rfl rfl (by kernel_rfl) (by kernel_rfl) (by kernel_rfl) (fun _ _ _ h => h) (Or.inl ⟨by rfl, ?yvd5⟩) (by assumption) ?rvd5
          case yvd5 => (intro w hSw; (try dsimp only at hSw); go_simp <;> with_reducible rfl)
          try simp only [Act.put, List.setIfInBounds_toArray, List.set_cons_zero, List.set_cons_succ]
          refine wpAnyH_skips (by kernel_rfl) (fun _ _ _ _ h => h) (by assumption) [(6, 40), (7, 41), (8, 42), (9, 43)] 11 _ _ _ rfl (by kernel_rfl) ?_
          simp only [skipAct, skipListed, Act.put, List.setIfInBounds_toArray, List.set_cons_zero, List.set_cons_succ]
          refine wpAnyH_takeD (i := 10) (d := 44) (v := ?vd10) rfl rfl (by kernel_rfl) (by kernel_rfl) (by kernel_rfl) (fun _ _ _ h => h) (Or.inl ⟨by rfl, ?yvd10⟩) (by assumption) ?rvd10
          case yvd10 => (intro w hSw; (try dsimp only at hSw); go_simp <;> with_reducible rfl)
          try simp only [Act.put, List.setIfInBounds_toArray, List.set_cons_zero, List.set_cons_succ]
          refine wpAnyH_takeD (i := 11) (d := 45) (v := ?vd11) rfl rfl (by kernel_rfl) (by kernel_rfl) (by kernel_rfl) (fun _ _ _ h => h) (Or.inl ⟨by rfl, ?yvd11⟩) (by assumption) ?rvd11
          case yvd11 => (intro w hSw; (try dsimp only at hSw); go_simp <;> with_reducible rfl)
          try simp only [Act.put, List.setIfInBounds_toArray, List.set_cons_zero, List.set_cons_succ]
          refine wpAnyH_takeD (i := 12) (d := 46) (v := ?vd12) rfl rfl (by kernel_rfl) (by kernel_rfl) (by kernel_rfl) (fun _ _ _ h => h) (Or.inl ⟨by rfl, ?yvd12⟩) (by assumption) ?rvd12
          case yvd12 => (intro w hSw; (try dsimp only at hSw); go_simp <;> with_reducible rfl)
          try simp only [Act.put, List.setIfInBounds_toArray, List.set_cons_zero, List.set_cons_succ]
          refine wpAnyH_takeD (i := 13) (d := 47) (v := ?vd13) rfl rfl (by kernel_rfl) (by kernel_rfl) (by kernel_rfl) (fun _ _ _ h => h) (Or.inl ⟨by rfl, ?yvd13⟩) (by assumption) ?rvd13
          case yvd13 => (intro w hSw; (try dsimp only at hSw); go_simp <;> with_reducible rfl)
          try simp only [Act.put, List.setIfInBounds_toArray, List.set_cons_zero, List.set_cons_succ]
          refine wpAnyH_takeD (i := 15) (d := 49) (v := ?vd15) rfl rfl (by kernel_rfl) (by kernel_rfl) (by kernel_rfl) (fun _ _ _ h => h) (Or.inl ⟨by rfl, ?yvd15⟩) (by assumption) ?rvd15
          case yvd15 => (intro w hSw; (try dsimp only at hSw); go_simp <;> with_reducible rfl)
          try simp only [Act.put, List.setIfInBounds_toArray, List.set_cons_zero, List.set_cons_succ]
          refine wpAnyH_takeD (i := 16) (d := 50) (v := ?vd16) rfl rfl (by kernel_rfl) (by kernel_rfl) (by kernel_rfl) (fun _ _ _ h => h) (Or.inl ⟨by rfl, ?yvd16⟩) (by assumption) ?rvd16
          case yvd16 => (intro w hSw; (try dsimp only at hSw); go_simp <;> with_reducible rfl)
          try simp only [Act.put, List.setIfInBounds_toArray, List.set_cons_zero, List.set_cons_succ]
          refine wpAnyH_takeD (i := 18) (d := 52) (v := ?vd18) rfl rfl (by kernel_rfl) (by kernel_rfl) (by kernel_rfl) (fun _ _ _ h => h) (Or.inl ⟨by rfl, ?yvd18⟩) (by assumption) ?rvd18
          case yvd18 => (intro w hSw; (try dsimp only at hSw); go_simp <;> with_reducible rfl)
          try simp only [Act.put, List.setIfInBounds_toArray, List.set_cons_zero, List.set_cons_succ]
          refine wpAnyH_ready (rs := [14]) (by kernel_rfl) (by simp) ?_
          refine AllReadyH.cons rfl (fun K hK => ?_) AllReadyH.nil
          go_simp
          go_wp2_with (go_at_call 27; (refine (HMS.out _ (by assumption)).mono ?_); rintro e wx ⟨rfl, hkeep⟩)
          refine hK.out _ _ hkeep (fun hHeld => ?_)
          clear hK K
          try simp only [Act.put, List.setIfInBounds_toArray, List.set_cons_zero, List.set_cons_succ]
          refine wpAnyH_ready (rs := [17]) (by kernel_rfl) (by simp) ?_
          refine AllReadyH.cons rfl (fun K hK => ?_) AllReadyH.nil
          go_simp
          go_wp2_with (go_at_call 44; (refine (HMG.out _ (by assumption)).mono ?_); rintro e wx ⟨rfl, hkeep⟩)
          refine hK.out _ _ hkeep (fun hHeld => ?_)
          clear hK K
          try simp only [Act.put, List.setIfInBounds_toArray, List.set_cons_zero, List.set_cons_succ]
          refine wpAnyH_takeD (i := 19) (d := 53) (v := ?vd19) rfl rfl (by kernel_rfl) (by kernel_rfl) (by kernel_rfl) (fun _ _ _ h => h) (Or.inl ⟨by rfl, ?yvd19⟩) (by assumption) ?rvd19
          case yvd19 => (intro w hSw; (try dsimp only at hSw); go_simp <;> with_reducible rfl)
          try simp only [Act.put, List.setIfInBounds_toArray, List.set_cons_zero, List.set_cons_succ]
          refine wpAnyH_takeD (i := 20) (d := 54) (v := ?vd20) rfl rfl (by kernel_rfl) (by kernel_rfl) (by kernel_rfl) (fun _ _ _ h => h) (Or.inl ⟨by rfl, ?yvd20⟩) (by assumption) ?rvd20
          case yvd20 => (intro w hSw; (try dsimp only at hSw); go_simp <;> with_reducible rfl)
          try simp only [Act.put, List.setIfInBounds_toArray, List.set_cons_zero, List.set_cons_succ]
          refine wpAnyH_done (by kernel_rfl) ?_ _
          go_wp2_with fail
          go_meet
          exact ⟨by (rw [HFB.out]; try rfl), Lib.hid (WxS.bel hkeep)⟩
      by_cases hp2 : c.proto = Au.sMutual
      · obtain ⟨M, hM⟩ : ∃ M, Au.msgMutual { c with peer := p } c.step = M := ⟨_, rfl⟩
        have hmsg : Au.msg { c with peer := p } c.step = M := by rw [← hM]; unfold Au.msg; rw [if_neg hp1, if_pos hp2]
        have HMS := Lib.hid (fun (W' : World) (h : WxS W W' w.heap.size (w.heap.size + 2) c p (.slice ao m cp)) => (msgs_mut { c with peer := p } ao m cp W' hp2).mono fun e w' h' => (⟨h'.1, wx_s HR2.out HR6.out (bnext h.bel h'.2)⟩ : e = .returned (.func (.func 45) #[.agg #[.int .i64 c.id, .string (T c.proto), .int .i64 c.role, .int .i64 c.phase, .int .i64 c.step, (.slice ao m cp), .string (T c.own), .string (T p), .string (T c.user), .int .i64 c.err]] #[]) ∧ WxS W w' w.heap.size (w.heap.size + 2) c p (.slice ao m cp)))
        have HMG := Lib.hid (fun (W' : World) (h : WxS W W' w.heap.size (w.heap.size + 2) c p (.slice ao m cp)) => show Calls Tryz.prog 45 #[.agg #[.int .i64 c.id, .string (T c.proto), .int .i64 c.role, .int .i64 c.phase, .int .i64 c.step, (.slice ao m cp), .string (T c.own), .string (T p), .string (T c.user), .int .i64 c.err], .int .i64 c.step] W' fun e w' => e = .returned (.string (T M)) ∧ WxS W w' w.heap.size (w.heap.size + 2) c p (.slice ao m cp) from (tmut_any { c with peer := p } (.slice ao m cp) c.step W' (HAT.out.below h.bel) HFD.out (HKI.out.below h.bel)).mono fun e w' h' => ⟨by rw [← hM]; exact h'.1, wx_s HR2.out HR6.out (bnext h.bel h'.2)⟩)
        rw [hmsg, hlead, Bool.false_or] at hbad
        clear hM hmsg hat hFB hp2
        by_cases hs : M = s
        · have HFB := Lib.hid (show wbad c p s = false from by rw [hbad, decide_eq_true hs]; rfl)
          have k5 := seq_yes hs
          clear hs hbad
          go_upto_region 7 with fail
          refine wp_region_held_drew (S := (fun W' => WxS W W' w.heap.size (w.heap.size + 2) c p (.slice ao m cp))) (by kernel_rfl) HSD.out (fun hHeld => ?_)
          refine wpAnyH_takeD (i := 0) (d := 34) (v := ?ve0) rfl rfl (by kernel_rfl) (by kernel_rfl) (by kernel_rfl) (fun _ _ _ h => h) (Or.inl ⟨by rfl, ?yve0⟩) (by assumption) ?rve0
          case yve0 => (intro w hSw; (try dsimp only at hSw); go_simp <;> with_reducible rfl)
          try simp only [Act.put, List.setIfInBounds_toArray, List.set_cons_zero, List.set_cons_succ]
          refine wpAnyH_takeD (i := 1) (d := 35) (v := ?ve1) rfl rfl (by kernel_rfl) (by kernel_rfl) (by kernel_rfl) (fun _ _ _ h => h) (Or.inl ⟨by rfl, ?yve1⟩) (by assumption) ?rve1
          case yve1 => (intro w hSw; (try dsimp only at hSw); go_simp <;> with_reducible rfl)
          try simp only [Act.put, List.setIfInBounds_toArray, List.set_cons_zero, List.set_cons_succ]
          refine wpAnyH_takeD (i := 2) (d := 36) (v := ?ve2) rfl rfl (by kernel_rfl) (by kernel_rfl) (by kernel_rfl) (fun _ _ _ h => h) (Or.inl ⟨by rfl, ?yve2⟩) (by assumption) ?rve2
          case yve2 => (intro w hSw; (try dsimp only at hSw); go_simp <;> with_reducible rfl)
          try simp only [Act.put, List.setIfInBounds_toArray, List.set_cons_zero, List.set_cons_succ]
          refine wpAnyH_ready (rs := [3]) (by kernel_rfl) (by simp) ?_
          refine AllReadyH.cons rfl (fun K hK => ?_) AllReadyH.nil
          go_simp
          go_wp2_with (go_at_call 37; (refine (HCA.out _ (by assumption)).mono ?_); rintro e wx ⟨rfl, hkeep⟩)
          refine hK.out _ _ hkeep (fun hHeld => ?_)
          clear hK K
          try simp only [Act.put, List.setIfInBounds_toArray, List.set_cons_zero, List.set_cons_succ]
          refine wpAnyH_takeD (i := 4) (d := 38) (v := ?ve4) rfl rfl (by kernel_rfl) (by kernel_rfl) (by kernel_rfl) (fun _ _ _ h => h) (Or.inl ⟨by rfl, ?yve4⟩) (by assumption) ?rve4
          case yve4 => (intro w hSw; (try dsimp only at hSw); go_simp <;> with_reducible rfl)
          try simp only [Act.put, List.setIfInBounds_toArray, List.set_cons_zero, List.set_cons_succ]
          refine wpAnyH_takeD (i := 5) (d := 39) (v := ?ve5) rfl rfl (by kernel_rfl) (by kernel_rfl) (by kernel_rfl) (fun _ _ _ h => h) (Or.inl ⟨by rfl, ?yve5⟩) (by assumption) ?rve5
          case yve5 => (intro w hSw; (try dsimp only at hSw); go_simp <;> with_reducible rfl)
          try simp only [Act.put, List.setIfInBounds_toArray, List.set_cons_zero, List.set_cons_succ]
          refine wpAnyH_skips (by kernel_rfl) (fun _ _ _ _ h => h) (by assumption) [(6, 40), (7, 41), (8, 42), (9, 43)] 11 _ _ _ rfl (by kernel_rfl) ?_
          simp only [skipAct, skipListed, Act.put, List.setIfInBounds_toArray, List.set_cons_zero, List.set_cons_succ]
          refine wpAnyH_takeD (i := 10) (d := 44) (v := ?ve10) rfl rfl (by kernel_rfl) (by kernel_rfl) (by kernel_rfl) (fun _ _ _ h => h) (Or.inl ⟨by rfl, ?yve10⟩) (by assumption) ?rve10
          case yve10 => (intro w hSw; (try dsimp only at hSw); go_simp <;> with_reducible rfl)
          try simp only [Act.put, List.setIfInBounds_toArray, List.set_cons_zero, List.set_cons_succ]
          refine wpAnyH_takeD (i := 11) (d := 45) (v := ?ve11) rfl rfl (by kernel_rfl) (by kernel_rfl) (by kernel_rfl) (fun _ _ _ h => h) (Or.inl ⟨by rfl, ?yve11⟩) (by assumption) ?rve11
          case yve11 => (intro w hSw; (try dsimp only at hSw); go_simp <;> with_reducible rfl)
          try simp only [Act.put, List.setIfInBounds_toArray, List.set_cons_zero, List.set_cons_succ]
          refine wpAnyH_takeD (i := 12) (d := 46) (v := ?ve12) rfl rfl (by kernel_rfl) (by kernel_rfl) (by kernel_rfl) (fun _ _ _ h => h) (Or.inl ⟨by rfl, ?yve12⟩) (by assumption) ?rve12
          case yve12 => (intro w hSw; (try dsimp only at hSw); go_simp <;> with_reducible rfl)
          try simp only [Act.put, List.setIfInBounds_toArray, List.set_cons_zero, List.set_cons_succ]
          refine wpAnyH_takeD (i := 13) (d := 47) (v := ?ve13) rfl rfl (by kernel_rfl) (by kernel_rfl) (by kernel_rfl) (fun _ _ _ h => h) (Or.inl ⟨by rfl, ?yve13⟩) (by assumption) ?rve13
          case yve13 => (intro w hSw; (try dsimp only at hSw); go_simp <;> with_reducible rfl)
          try simp only [Act.put, List.setIfInBounds_toArray, List.set_cons_zero, List.set_cons_succ]
          refine wpAnyH_takeD (i := 15) (d := 49) (v := ?ve15) rfl rfl (by kernel_rfl) (by kernel_rfl) (by kernel_rfl) (fun _ _ _ h => h) (Or.inl ⟨by rfl, ?yve15⟩) (by assumption) ?rve15
          case yve15 => (intro w hSw; (try dsimp only at hSw); go_simp <;> with_reducible rfl)
          try simp only [Act.put, List.setIfInBounds_toArray, List.set_cons_zero, List.set_cons_succ]
          refine wpAnyH_takeD (i := 16) (d := 50) (v := ?ve16) rfl rfl (by kernel_rfl) (by kernel_rfl) (by kernel_rfl) (fun _ _ _ h => h) (Or.inl ⟨by rfl, ?yve16⟩) (by assumption) ?rve16
          case yve16 => (intro w hSw; (try dsimp only at hSw); go_simp <;> with_reducible rfl)
          try simp only [Act.put, List.setIfInBounds_toArray, List.set_cons_zero, List.set_cons_succ]
          refine wpAnyH_takeD (i := 18) (d := 52) (v := ?ve18) rfl rfl (by kernel_rfl) (by kernel_rfl) (by kernel_rfl) (fun _ _ _ h => h) (Or.inl ⟨by rfl, ?yve18⟩) (by assumption) ?rve18
          case yve18 => (intro w hSw; (try dsimp only at hSw); go_simp <;> with_reducible rfl)
          try simp only [Act.put, List.setIfInBounds_toArray, List.set_cons_zero, List.set_cons_succ]
          refine wpAnyH_ready (rs := [14]) (by kernel_rfl) (by simp) ?_
          refine AllReadyH.cons rfl (fun K hK => ?_) AllReadyH.nil
          go_simp
          go_wp2_with (go_at_call 27; (refine (HMS.out _ (by assumption)).mono ?_); rintro e wx ⟨rfl, hkeep⟩)
          refine hK.out _ _ hkeep (fun hHeld => ?_)
          clear hK K
          try simp only [Act.put, List.setIfInBounds_toArray, List.set_cons_zero, List.set_cons_succ]
          refine wpAnyH_ready (rs := [17]) (by kernel_rfl) (by simp) ?_
          refine AllReadyH.cons rfl (fun K hK => ?_) AllReadyH.nil
          go_simp
          go_wp2_with (go_at_call 45; (refine (HMG.out _ (by assumption)).mono ?_); rintro e wx ⟨rfl, hkeep⟩)
          refine hK.out _ _ hkeep (fun hHeld => ?_)
          clear hK K
          try simp only [Act.put, List.setIfInBounds_toArray, List.set_cons_zero, List.set_cons_succ]
          refine wpAnyH_takeD (i := 19) (d := 53) (v := ?ve19) rfl rfl (by kernel_rfl) (by kernel_rfl) (by kernel_rfl) (fun _ _ _ h => h) (Or.inl ⟨by rfl, ?yve19⟩) (by assumption) ?rve19
          case yve19 => (intro w hSw; (try dsimp only at hSw); go_simp <;> with_reducible rfl)
          try simp only [Act.put, List.setIfInBounds_toArray, List.set_cons_zero, List.set_cons_succ]
          refine wpAnyH_takeD (i := 20) (d := 54) (v := ?ve20) rfl rfl (by kernel_rfl) (by kernel_rfl) (by kernel_rfl) (fun _ _ _ h => h) (Or.inl ⟨by rfl, ?yve20⟩) (by assumption) ?rve20
          case yve20 => (intro w hSw; (try dsimp only at hSw); go_simp <;> with_reducible rfl)
          try simp only [Act.put, List.setIfInBounds_toArray, List.set_cons_zero, List.set_cons_succ]
          refine wpAnyH_done (by kernel_rfl) ?_ _
          go_wp2_with fail
          go_meet
          exact ⟨by (rw [HFB.out]; try rfl), Lib.hid (WxS.bel hkeep)⟩
        · have HFB := Lib.hid (show wbad c p s = true from by rw [hbad, decide_eq_false hs]; rfl)
          have k5 := seq_no hs
          clear hs hbad
          go_upto_region 7 with fail
          refine wp_region_held_drew (S := (fun W' => WxS W W' w.heap.size (w.heap.size + 2) c p (.slice ao m cp))) (by kernel_rfl) HSD.out (fun hHeld => ?_)
          refine wpAnyH_takeD (i := 0) (d := 34) (v := ?vf0) rfl rfl (by kernel_rfl) (by kernel_rfl) (by kernel_rfl) (fun _ _ _ h => h) (Or.inl ⟨by rfl, ?yvf0⟩) (by assumption) ?rvf0
          case yvf0 => (intro w hSw; (try dsimp only at hSw); go_simp <;> with_reducible rfl)
          try simp only [Act.put, List.setIfInBounds_toArray, List.set_cons_zero, List.set_cons_succ]
          refine wpAnyH_takeD (i := 1) (d := 35) (v := ?vf1) rfl rfl (by kernel_rfl) (by kernel_rfl) (by kernel_rfl) (fun _ _ _ h => h) (Or.inl ⟨by rfl, ?yvf1⟩) (by assumption) ?rvf1
          case yvf1 => (intro w hSw; (try dsimp only at hSw); go_simp <;> with_reducible rfl)
          try simp only [Act.put, List.setIfInBounds_toArray, List.set_cons_zero, List.set_cons_succ]
          refine wpAnyH_takeD (i := 2) (d := 36) (v := ?vf2) rfl rfl (by kernel_rfl) (by kernel_rfl) (by kernel_rfl) (fun _ _ _ h => h) (Or.inl ⟨by rfl, ?yvf2⟩) (by assumption) ?rvf2
          case yvf2 => (intro w hSw; (try dsimp only at hSw); go_simp <;> with_reducible rfl)
          try simp only [Act.put, List.setIfInBounds_toArray, List.set_cons_zero, List.set_cons_succ]
          refine wpAnyH_ready (rs := [3]) (by kernel_rfl) (by simp) ?_
          refine AllReadyH.cons rfl (fun K hK => ?_) AllReadyH.nil
          go_simp
          go_wp2_with (go_at_call 37; (refine (HCA.out _ (by assumption)).mono ?_); rintro e wx ⟨rfl, hkeep⟩)
          refine hK.out _ _ hkeep (fun hHeld => ?_)
          clear hK K
          try simp only [Act.put, List.setIfInBounds_toArray, List.set_cons_zero, List.set_cons_succ]
          refine wpAnyH_takeD (i := 4) (d := 38) (v := ?vf4) rfl rfl (by kernel_rfl) (by kernel_rfl) (by kernel_rfl) (fun _ _ _ h => h) (Or.inl ⟨by rfl, ?yvf4⟩) (by assumption) ?rvf4
          case yvf4 => (intro w hSw; (try dsimp only at hSw); go_simp <;> with_reducible rfl)
          try simp only [Act.put, List.setIfInBounds_toArray, List.set_cons_zero, List.set_cons_succ]
          refine wpAnyH_takeD (i := 5) (d := 39) (v := ?vf5) rfl rfl (by kernel_rfl) (by kernel_rfl) (by kernel_rfl) (fun _ _ _ h => h) (Or.inl ⟨by rfl, ?yvf5⟩) (by assumption) ?rvf5
          case yvf5 => (intro w hSw; (try dsimp only at hSw); go_simp <;> with_reducible rfl)
          try simp only [Act.put, List.setIfInBounds_toArray, List.set_cons_zero, List.set_cons_succ]
          refine wpAnyH_skips (by kernel_rfl) (fun _ _ _ _ h => h) (by assumption) [(6, 40), (7, 41), (8, 42), (9, 43)] 11 _ _ _ rfl (by kernel_rfl) ?_
          simp only [skipAct, skipListed, Act.put, List.setIfInBounds_toArray, List.set_cons_zero, List.set_cons_succ]
          refine wpAnyH_takeD (i := 10) (d := 44) (v := ?vf10) rfl rfl (by kernel_rfl) (by kernel_rfl) (by kernel_rfl) (fun _ _ _ h => h) (Or.inl ⟨by rfl, ?yvf10⟩) (by assumption) ?rvf10
          case yvf10 => (intro w hSw; (try dsimp only at hSw); go_simp <;> with_reducible rfl)
          try simp only [Act.put, List.setIfInBounds_toArray, List.set_cons_zero, List.set_cons_succ]
          refine wpAnyH_takeD (i := 11) (d := 45) (v := ?vf11) rfl rfl (by kernel_rfl) (by kernel_rfl) (by kernel_rfl) (fun _ _ _ h => h) (Or.inl ⟨by rfl, ?yvf11⟩) (by assumption) ?rvf11
          case yvf11 => (intro w hSw; (try dsimp only at hSw); go_simp <;> with_reducible rfl)
          try simp only [Act.put, List.setIfInBounds_toArray, List.set_cons_zero, List.set_cons_succ]
          refine wpAnyH_takeD (i := 12) (d := 46) (v := ?vf12) rfl rfl (by kernel_rfl) (by kernel_rfl) (by kernel_rfl) (fun _ _ _ h => h) (Or.inl ⟨by rfl, ?yvf12⟩) (by assumption) ?rvf12
          case yvf12 => (intro w hSw; (try dsimp only at hSw); go_simp <;> with_reducible rfl)
          try simp only [Act.put, List.setIfInBounds_toArray, List.set_cons_zero, List.set_cons_succ]
          refine wpAnyH_takeD (i := 13) (d := 47) (v := ?vf13) rfl rfl (by kernel_rfl) (by kernel_rfl) (by kernel_rfl) (fun _ _ _ h => h) (Or.inl ⟨by rfl, ?yvf13⟩) (by assumption) ?rvf13
          case yvf13 => (intro w hSw; (try dsimp only at hSw); go_simp <;> with_reducible rfl)
          try simp only [Act.put, List.setIfInBounds_toArray, List.set_cons_zero, List.set_cons_succ]
          refine wpAnyH_takeD (i := 15) (d := 49) (v := ?vf15) rfl rfl (by kernel_rfl) (by kernel_rfl) (by kernel_rfl) (fun _ _ _ h => h) (Or.inl ⟨by rfl, ?yvf15⟩) (by assumption) ?rvf15
          case yvf15 => (intro w hSw; (try dsimp only at hSw); go_simp <;> with_reducible rfl)
          try simp only [Act.put, List.setIfInBounds_toArray, List.set_cons_zero, List.set_cons_succ]
          refine wpAnyH_takeD (i := 16) (d := 50) (v := ?vf16) rfl rfl (by kernel_rfl) (by kernel_rfl) (by kernel_rfl) (fun _ _ _ h => h) (Or.inl ⟨by rfl, ?yvf16⟩) (by assumption) ?rvf16
          case yvf16 => (intro w hSw; (try dsimp only at hSw); go_simp <;> with_reducible rfl)
          try simp only [Act.put, List.setIfInBounds_toArray, List.set_cons_zero, List.set_cons_succ]
          refine wpAnyH_takeD (i := 18) (d := 52) (v := ?vf18) rfl rfl (by kernel_rfl) (by kernel_rfl) (by kernel_rfl) (fun _ _ _ h => h) (Or.inl ⟨by rfl, ?yvf18⟩) (by assumption) ?rvf18
          case yvf18 => (intro w hSw; (try dsimp only at hSw); go_simp <;> with_reducible rfl)
          try simp only [Act.put, List.setIfInBounds_toArray, List.set_cons_zero, List.set_cons_succ]
          refine wpAnyH_ready (rs := [14]) (by kernel_rfl) (by simp) ?_
          refine AllReadyH.cons rfl (fun K hK => ?_) AllReadyH.nil
          go_simp
          go_wp2_with (go_at_call 27; (refine (HMS.out _ (by assumption)).mono ?_); rintro e wx ⟨rfl, hkeep⟩)
          refine hK.out _ _ hkeep (fun hHeld => ?_)
          clear hK K
          try simp only [Act.put, List.setIfInBounds_toArray, List.set_cons_zero, List.set_cons_succ]
          refine wpAnyH_ready (rs := [17]) (by kernel_rfl) (by simp) ?_
          refine AllReadyH.cons rfl (fun K hK => ?_) AllReadyH.nil
          go_simp
          go_wp2_with (go_at_call 45; (refine (HMG.out _ (by assumption)).mono ?_); rintro e wx ⟨rfl, hkeep⟩)
          refine hK.out _ _ hkeep (fun hHeld => ?_)
          clear hK K
          try simp only [Act.put, List.setIfInBounds_toArray, List.set_cons_zero, List.set_cons_succ]
          refine wpAnyH_takeD (i := 19) (d := 53) (v := ?vf19) rfl rfl (by kernel_rfl) (by kernel_rfl) (by kernel_rfl) (fun _ _ _ h => h) (Or.inl ⟨by rfl, ?yvf19⟩) (by assumption) ?rvf19
          case yvf19 => (intro w hSw; (try dsimp only at hSw); go_simp <;> with_reducible rfl)
          try simp only [Act.put, List.setIfInBounds_toArray, List.set_cons_zero, List.set_cons_succ]
          refine wpAnyH_takeD (i := 20) (d := 54) (v := ?vf20) rfl rfl (by kernel_rfl) (by kernel_rfl) (by kernel_rfl) (fun _ _ _ h => h) (Or.inl ⟨by rfl, ?yvf20⟩) (by assumption) ?rvf20
          case yvf20 => (intro w hSw; (try dsimp only at hSw); go_simp <;> with_reducible rfl)
          try simp only [Act.put, List.setIfInBounds_toArray, List.set_cons_zero, List.set_cons_succ]
          refine wpAnyH_done (by kernel_rfl) ?_ _
          go_wp2_with fail
          go_meet
          exact ⟨by (rw [HFB.out]; try rfl), Lib.hid (WxS.bel hkeep)⟩
      · obtain ⟨M, hM⟩ : ∃ M, Au.msgPlain { c with peer := p } c.step = M := ⟨_, rfl⟩
        have hmsg : Au.msg { c with peer := p } c.step = M := by rw [← hM]; unfold Au.msg; rw [if_neg hp1, if_neg hp2]
        have HMS := Lib.hid (fun (W' : World) (h : WxS W W' w.heap.size (w.heap.size + 2) c p (.slice ao m cp)) => (msgs_pln { c with peer := p } ao m cp W' hp1 hp2).mono fun e w' h' => (⟨h'.1, wx_s HR2.out HR6.out (bnext h.bel h'.2)⟩ : e = .returned (.func (.func 46) #[.agg #[.int .i64 c.id, .string (T c.proto), .int .i64 c.role, .int .i64 c.phase, .int .i64 c.step, (.slice ao m cp), .string (T c.own), .string (T p), .string (T c.user), .int .i64 c.err]] #[]) ∧ WxS W w' w.heap.size (w.heap.size + 2) c p (.slice ao m cp)))
        have HMG := Lib.hid (fun (W' : World) (h : WxS W W' w.heap.size (w.heap.size + 2) c p (.slice ao m cp)) => show Calls Tryz.prog 46 #[.agg #[.int .i64 c.id, .string (T c.proto), .int .i64 c.role, .int .i64 c.phase, .int .i64 c.step, (.slice ao m cp), .string (T c.own), .string (T p), .string (T c.user), .int .i64 c.err], .int .i64 c.step] W' fun e w' => e = .returned (.string (T M)) ∧ WxS W w' w.heap.size (w.heap.size + 2) c p (.slice ao m cp) from (tpln_any { c with peer := p } (.slice ao m cp) c.step W' (HAT.out.below h.bel) HFD.out (HKI.out.below h.bel)).mono fun e w' h' => ⟨by rw [← hM]; exact h'.1, wx_s HR2.out HR6.out (bnext h.bel h'.2)⟩)
        rw [hmsg, hlead, Bool.false_or] at hbad
        clear hM hmsg hat hFB hp1 hp2
        by_cases hs : M = s
        · have HFB := Lib.hid (show wbad c p s = false from by rw [hbad, decide_eq_true hs]; rfl)
          have k5 := seq_yes hs
          clear hs hbad
          go_upto_region 7 with fail
          refine wp_region_held_drew (S := (fun W' => WxS W W' w.heap.size (w.heap.size + 2) c p (.slice ao m cp))) (by kernel_rfl) HSD.out (fun hHeld => ?_)
          refine wpAnyH_takeD (i := 0) (d := 34) (v := ?vg0) rfl rfl (by kernel_rfl) (by kernel_rfl) (by kernel_rfl) (fun _ _ _ h => h) (Or.inl ⟨by rfl, ?yvg0⟩) (by assumption) ?rvg0
          case yvg0 => (intro w hSw; (try dsimp only at hSw); go_simp <;> with_reducible rfl)
          try simp only [Act.put, List.setIfInBounds_toArray, List.set_cons_zero, List.set_cons_succ]
          refine wpAnyH_takeD (i := 1) (d := 35) (v := ?vg1) rfl rfl (by kernel_rfl) (by kernel_rfl) (by kernel_rfl) (fun _ _ _ h => h) (Or.inl ⟨by rfl, ?yvg1⟩) (by assumption) ?rvg1
          case yvg1 => (intro w hSw; (try dsimp only at hSw); go_simp <;> with_reducible rfl)
          try simp only [Act.put, List.setIfInBounds_toArray, List.set_cons_zero, List.set_cons_succ]
          refine wpAnyH_takeD (i := 2) (d := 36) (v := ?vg2) rfl rfl (by kernel_rfl) (by kernel_rfl) (by kernel_rfl) (fun _ _ _ h => h) (Or.inl ⟨by rfl, ?yvg2⟩) (by assumption) ?rvg2
          case yvg2 => (intro w hSw; (try dsimp only at hSw); go_simp <;> with_reducible rfl)
          try simp only [Act.put, List.setIfInBounds_toArray, List.set_cons_zero, List.set_cons_succ]
          refine wpAnyH_ready (rs := [3]) (by kernel_rfl) (by simp) ?_
          refine AllReadyH.cons rfl (fun K hK => ?_) AllReadyH.nil
          go_simp
          go_wp2_with (go_at_call 37; (refine (HCA.out _ (by assumption)).mono ?_); rintro e wx ⟨rfl, hkeep⟩)
          refine hK.out _ _ hkeep (fun hHeld => ?_)
          clear hK K
          try simp only [Act.put, List.setIfInBounds_toArray, List.set_cons_zero, List.set_cons_succ]
          refine wpAnyH_takeD (i := 4) (d := 38) (v := ?vg4) rfl rfl (by kernel_rfl) (by kernel_rfl) (by kernel_rfl) (fun _ _ _ h => h) (Or.inl ⟨by rfl, ?yvg4⟩) (by assumption) ?rvg4
          case yvg4 => (intro w hSw; (try dsimp only at hSw); go_simp <;> with_reducible rfl)
          try simp only [Act.put, List.setIfInBounds_toArray, List.set_cons_zero, List.set_cons_succ]
          refine wpAnyH_takeD (i := 5) (d := 39) (v := ?vg5) rfl rfl (by kernel_rfl) (by kernel_rfl) (by kernel_rfl) (fun _ _ _ h => h) (Or.inl ⟨by rfl, ?yvg5⟩) (by assumption) ?rvg5
          case yvg5 => (intro w hSw; (try dsimp only at hSw); go_simp <;> with_reducible rfl)
          try simp only [Act.put, List.setIfInBounds_toArray, List.set_cons_zero, List.set_cons_succ]
          refine wpAnyH_skips (by kernel_rfl) (fun _ _ _ _ h => h) (by assumption) [(6, 40), (7, 41), (8, 42), (9, 43)] 11 _ _ _ rfl (by kernel_rfl) ?_
          simp only [skipAct, skipListed, Act.put, List.setIfInBounds_toArray, List.set_cons_zero, List.set_cons_succ]
          refine wpAnyH_takeD (i := 10) (d := 44) (v := ?vg10) rfl rfl (by kernel_rfl) (by kernel_rfl) (by kernel_rfl) (fun _ _ _ h => h) (Or.inl ⟨by rfl, ?yvg10⟩) (by assumption) ?rvg10
          case yvg10 => (intro w hSw; (try dsimp only at hSw); go_simp <;> with_reducible rfl)
          try simp only [Act.put, List.setIfInBounds_toArray, List.set_cons_zero, List.set_cons_succ]
          refine wpAnyH_takeD (i := 11) (d := 45) (v := ?vg11) rfl rfl (by kernel_rfl) (by kernel_rfl) (by kernel_rfl) (fun _ _ _ h => h) (Or.inl ⟨by rfl, ?yvg11⟩) (by assumption) ?rvg11
          case yvg11 => (intro w hSw; (try dsimp only at hSw); go_simp <;> with_reducible rfl)
          try simp only [Act.put, List.setIfInBounds_toArray, List.set_cons_zero, List.set_cons_succ]
          refine wpAnyH_takeD (i := 12) (d := 46) (v := ?vg12) rfl rfl (by kernel_rfl) (by kernel_rfl) (by kernel_rfl) (fun _ _ _ h => h) (Or.inl ⟨by rfl, ?yvg12⟩) (by assumption) ?rvg12
          case yvg12 => (intro w hSw; (try dsimp only at hSw); go_simp <;> with_reducible rfl)
          try simp only [Act.put, List.setIfInBounds_toArray, List.set_cons_zero, List.set_cons_succ]
          refine wpAnyH_takeD (i := 13) (d := 47) (v := ?vg13) rfl rfl (by kernel_rfl) (by kernel_rfl) (by kernel_rfl) (fun _ _ _ h => h) (Or.inl ⟨by rfl, ?yvg13⟩) (by assumption) ?rvg13
          case yvg13 => (intro w hSw; (try dsimp only at hSw); go_simp <;> with_reducible rfl)
          try simp only [Act.put, List.setIfInBounds_toArray, List.set_cons_zero, List.set_cons_succ]
          refine wpAnyH_takeD (i := 15) (d := 49) (v := ?vg15) rfl rfl (by kernel_rfl) (by kernel_rfl) (by kernel_rfl) (fun _ _ _ h => h) (Or.inl ⟨by rfl, ?yvg15⟩) (by assumption) ?rvg15
          case yvg15 => (intro w hSw; (try dsimp only at hSw); go_simp <;> with_reducible rfl)
          try simp only [Act.put, List.setIfInBounds_toArray, List.set_cons_zero, List.set_cons_succ]
          refine wpAnyH_takeD (i := 16) (d := 50) (v := ?vg16) rfl rfl (by kernel_rfl) (by kernel_rfl) (by kernel_rfl) (fun _ _ _ h => h) (Or.inl ⟨by rfl, ?yvg16⟩) (by assumption) ?rvg16
          case yvg16 => (intro w hSw; (try dsimp only at hSw); go_simp <;> with_reducible rfl)
          try simp only [Act.put, List.setIfInBounds_toArray, List.set_cons_zero, List.set_cons_succ]
          refine wpAnyH_takeD (i := 18) (d := 52) (v := ?vg18) rfl rfl (by kernel_rfl) (by kernel_rfl) (by kernel_rfl) (fun _ _ _ h => h) (Or.inl ⟨by rfl, ?yvg18⟩) (by assumption) ?rvg18
          case yvg18 => (intro w hSw; (try dsimp only at hSw); go_simp <;> with_reducible rfl)
          try simp only [Act.put, List.setIfInBounds_toArray, List.set_cons_zero, List.set_cons_succ]
          refine wpAnyH_ready (rs := [14]) (by kernel_rfl) (by simp) ?_
          refine AllReadyH.cons rfl (fun K hK => ?_) AllReadyH.nil
          go_simp
          go_wp2_with (go_at_call 27; (refine (HMS.out _ (by assumption)).mono ?_); rintro e wx ⟨rfl, hkeep⟩)
          refine hK.out _ _ hkeep (fun hHeld => ?_)
          clear hK K
          try simp only [Act.put, List.setIfInBounds_toArray, List.set_cons_zero, List.set_cons_succ]
          refine wpAnyH_ready (rs := [17]) (by kernel_rfl) (by simp) ?_
          refine AllReadyH.cons rfl (fun K hK => ?_) AllReadyH.nil
          go_simp
          go_wp2_with (go_at_call 46; (refine (HMG.out _ (by assumption)).mono ?_); rintro e wx ⟨rfl, hkeep⟩)
          refine hK.out _ _ hkeep (fun hHeld => ?_)
          clear hK K
          try simp only [Act.put, List.setIfInBounds_toArray, List.set_cons_zero, List.set_cons_succ]
          refine wpAnyH_takeD (i := 19) (d := 53) (v := ?vg19) rfl rfl (by kernel_rfl) (by kernel_rfl) (by kernel_rfl) (fun _ _ _ h => h) (Or.inl ⟨by rfl, ?yvg19⟩) (by assumption) ?rvg19
          case yvg19 => (intro w hSw; (try dsimp only at hSw); go_simp <;> with_reducible rfl)
          try simp only [Act.put, List.setIfInBounds_toArray, List.set_cons_zero, List.set_cons_succ]
          refine wpAnyH_takeD (i := 20) (d := 54) (v := ?vg20) rfl rfl (by kernel_rfl) (by kernel_rfl) (by kernel_rfl) (fun _ _ _ h => h) (Or.inl ⟨by rfl, ?yvg20⟩) (by assumption) ?rvg20
          case yvg20 => (intro w hSw; (try dsimp only at hSw); go_simp <;> with_reducible rfl)
          try simp only [Act.put, List.setIfInBounds_toArray, List.set_cons_zero, List.set_cons_succ]
          refine wpAnyH_done (by kernel_rfl) ?_ _
          go_wp2_with fail
          go_meet
          exact ⟨by (rw [HFB.out]; try rfl), Lib.hid (WxS.bel hkeep)⟩
        · have HFB := Lib.hid (show wbad c p s = true from by rw [hbad, decide_eq_false hs]; rfl)
          have k5 := seq_no hs
          clear hs hbad
          go_upto_region 7 with fail
          refine wp_region_held_drew (S := (fun W' => WxS W W' w.heap.size (w.heap.size + 2) c p (.slice ao m cp))) (by kernel_rfl) HSD.out (fun hHeld => ?_)
          refine wpAnyH_takeD (i := 0) (d := 34) (v := ?vh0) rfl rfl (by kernel_rfl) (by kernel_rfl) (by kernel_rfl) (fun _ _ _ h => h) (Or.inl ⟨by rfl, ?yvh0⟩) (by assumption) ?rvh0
          case yvh0 => (intro w hSw; (try dsimp only at hSw); go_simp <;> with_reducible rfl)
          try simp only [Act.put, List.setIfInBounds_toArray, List.set_cons_zero, List.set_cons_succ]
          refine wpAnyH_takeD (i := 1) (d := 35) (v := ?vh1) rfl rfl (by kernel_rfl) (by kernel_rfl) (by kernel_rfl) (fun _ _ _ h => h) (Or.inl ⟨by rfl, ?yvh1⟩) (by assumption) ?rvh1
          case yvh1 => (intro w hSw; (try dsimp only at hSw); go_simp <;> with_reducible rfl)
          try simp only [Act.put, List.setIfInBounds_toArray, List.set_cons_zero, List.set_cons_succ]
          refine wpAnyH_takeD (i := 2) (d := 36) (v := ?vh2) rfl rfl (by kernel_rfl) (by kernel_rfl) (by kernel_rfl) (fun _ _ _ h => h) (Or.inl ⟨by rfl, ?yvh2⟩) (by assumption) ?rvh2
          case yvh2 => (intro w hSw; (try dsimp only at hSw); go_simp <;> with_reducible rfl)
          try simp only [Act.put, List.setIfInBounds_toArray, List.set_cons_zero, List.set_cons_succ]
          refine wpAnyH_ready (rs := [3]) (by kernel_rfl) (by simp) ?_
          refine AllReadyH.cons rfl (fun K hK => ?_) AllReadyH.nil
          go_simp
          go_wp2_with (go_at_call 37; (refine (HCA.out _ (by assumption)).mono ?_); rintro e wx ⟨rfl, hkeep⟩)
          refine hK.out _ _ hkeep (fun hHeld => ?_)
          clear hK K
          try simp only [Act.put, List.setIfInBounds_toArray, List.set_cons_zero, List.set_cons_succ]
          refine wpAnyH_takeD (i := 4) (d := 38) (v := ?vh4) rfl rfl (by kernel_rfl) (by kernel_rfl) (by kernel_rfl) (fun _ _ _ h => h) (Or.inl ⟨by rfl, ?yvh4⟩) (by assumption) ?rvh4
          case yvh4 => (intro w hSw; (try dsimp only at hSw); go_simp <;> with_reducible rfl)
          try simp only [Act.put, List.setIfInBounds_toArray, List.set_cons_zero, List.set_cons_succ]
          refine wpAnyH_takeD (i := 5) (d := 39) (v := ?vh5) rfl rfl (by kernel_rfl) (by kernel_rfl) (by kernel_rfl) (fun _ _ _ h => h) (Or.inl ⟨by rfl, ?yvh5⟩) (by assumption) ?rvh5
          case yvh5 => (intro w hSw; (try dsimp only at hSw); go_simp <;> with_reducible rfl)
          try simp only [Act.put, List.setIfInBounds_toArray, List.set_cons_zero, List.set_cons_succ]
          refine wpAnyH_skips (by kernel_rfl) (fun _ _ _ _ h => h) (by assumption) [(6, 40), (7, 41), (8, 42), (9, 43)] 11 _ _ _ rfl (by kernel_rfl) ?_
          simp only [skipAct, skipListed, Act.put, List.setIfInBounds_toArray, List.set_cons_zero, List.set_cons_succ]
          refine wpAnyH_takeD (i := 10) (d := 44) (v := ?vh10) rfl rfl (by kernel_rfl) (by kernel_rfl) (by kernel_rfl) (fun _ _ _ h => h) (Or.inl ⟨by rfl, ?yvh10⟩) (by assumption) ?rvh10
          case yvh10 => (intro w hSw; (try dsimp only at hSw); go_simp <;> with_reducible rfl)
          try simp only [Act.put, List.setIfInBounds_toArray, List.set_cons_zero, List.set_cons_succ]
          refine wpAnyH_takeD (i := 11) (d := 45) (v := ?vh11) rfl rfl (by kernel_rfl) (by kernel_rfl) (by kernel_rfl) (fun _ _ _ h => h) (Or.inl ⟨by rfl, ?yvh11⟩) (by assumption) ?rvh11
          case yvh11 => (intro w hSw; (try dsimp only at hSw); go_simp <;> with_reducible rfl)
          try simp only [Act.put, List.setIfInBounds_toArray, List.set_cons_zero, List.set_cons_succ]
          refine wpAnyH_takeD (i := 12) (d := 46) (v := ?vh12) rfl rfl (by kernel_rfl) (by kernel_rfl) (by kernel_rfl) (fun _ _ _ h => h) (Or.inl ⟨by rfl, ?yvh12⟩) (by assumption) ?rvh12
          case yvh12 => (intro w hSw; (try dsimp only at hSw); go_simp <;> with_reducible rfl)
          try simp only [Act.put, List.setIfInBounds_toArray, List.set_cons_zero, List.set_cons_succ]
          refine wpAnyH_takeD (i := 13) (d := 47) (v := ?vh13) rfl rfl (by kernel_rfl) (by kernel_rfl) (by kernel_rfl) (fun _ _ _ h => h) (Or.inl ⟨by rfl, ?yvh13⟩) (by assumption) ?rvh13
          case yvh13 => (intro w hSw; (try dsimp only at hSw); go_simp <;> with_reducible rfl)
          try simp only [Act.put, List.setIfInBounds_toArray, List.set_cons_zero, List.set_cons_succ]
          refine wpAnyH_takeD (i := 15) (d := 49) (v := ?vh15) rfl rfl (by kernel_rfl) (by kernel_rfl) (by kernel_rfl) (fun _ _ _ h => h) (Or.inl ⟨by rfl, ?yvh15⟩) (by assumption) ?rvh15
          case yvh15 => (intro w hSw; (try dsimp only at hSw); go_simp <;> with_reducible rfl)
          try simp only [Act.put, List.setIfInBounds_toArray, List.set_cons_zero, List.set_cons_succ]
          refine wpAnyH_takeD (i := 16) (d := 50) (v := ?vh16) rfl rfl (by kernel_rfl) (by kernel_rfl) (by kernel_rfl) (fun _ _ _ h => h) (Or.inl ⟨by rfl, ?yvh16⟩) (by assumption) ?rvh16
          case yvh16 => (intro w hSw; (try dsimp only at hSw); go_simp <;> with_reducible rfl)
          try simp only [Act.put, List.setIfInBounds_toArray, List.set_cons_zero, List.set_cons_succ]
          refine wpAnyH_takeD (i := 18) (d := 52) (v := ?vh18) rfl rfl (by kernel_rfl) (by kernel_rfl) (by kernel_rfl) (fun _ _ _ h => h) (Or.inl ⟨by rfl, ?yvh18⟩) (by assumption) ?rvh18
          case yvh18 => (intro w hSw; (try dsimp only at hSw); go_simp <;> with_reducible rfl)
          try simp only [Act.put, List.setIfInBounds_toArray, List.set_cons_zero, List.set_cons_succ]
          refine wpAnyH_ready (rs := [14]) (by kernel_rfl) (by simp) ?_
          refine AllReadyH.cons rfl (fun K hK => ?_) AllReadyH.nil
          go_simp
          go_wp2_with (go_at_call 27; (refine (HMS.out _ (by assumption)).mono ?_); rintro e wx ⟨rfl, hkeep⟩)
          refine hK.out _ _ hkeep (fun hHeld => ?_)
          clear hK K
          try simp only [Act.put, List.setIfInBounds_toArray, List.set_cons_zero, List.set_cons_succ]
          refine wpAnyH_ready (rs := [17]) (by kernel_rfl) (by simp) ?_
          refine AllReadyH.cons rfl (fun K hK => ?_) AllReadyH.nil
          go_simp
          go_wp2_with (go_at_call 46; (refine (HMG.out _ (by assumption)).mono ?_); rintro e wx ⟨rfl, hkeep⟩)
          refine hK.out _ _ hkeep (fun hHeld => ?_)
          clear hK K
          try simp only [Act.put, List.setIfInBounds_toArray, List.set_cons_zero, List.set_cons_succ]
          refine wpAnyH_takeD (i := 19) (d := 53) (v := ?vh19) rfl rfl (by kernel_rfl) (by kernel_rfl) (by kernel_rfl) (fun _ _ _ h => h) (Or.inl ⟨by rfl, ?yvh19⟩) (by assumption) ?rvh19
          case yvh19 => (intro w hSw; (try dsimp only at hSw); go_simp <;> with_reducible rfl)
          try simp only [Act.put, List.setIfInBounds_toArray, List.set_cons_zero, List.set_cons_succ]
          refine wpAnyH_takeD (i := 20) (d := 54) (v := ?vh20) rfl rfl (by kernel_rfl) (by kernel_rfl) (by kernel_rfl) (fun _ _ _ h => h) (Or.inl ⟨by rfl, ?yvh20⟩) (by assumption) ?rvh20
          case yvh20 => (intro w hSw; (try dsimp only at hSw); go_simp <;> with_reducible rfl)
          try simp only [Act.put, List.setIfInBounds_toArray, List.set_cons_zero, List.set_cons_succ]
          refine wpAnyH_done (by kernel_rfl) ?_ _
          go_wp2_with fail
          go_meet
          exact ⟨by (rw [HFB.out]; try rfl), Lib.hid (WxS.bel hkeep)⟩
  case rest =>
    obtain ⟨rfl, HBW⟩ := hcut
    generalize wc = W1 at *
    have HR2' := Lib.hid ((HBW.out.block _ (row_ltA HR2.out)).trans HR2.out)
    have HR4' := Lib.hid ((HBW.out.block _ (row_ltA HR4.out)).trans HR4.out)
    have HR6' := Lib.hid ((HBW.out.block _ (row_ltA HR6.out)).trans HR6.out)
    have HAT' := Lib.hid (HAT.out.below HBW.out)
    have HB' := Lib.hid (bnext HB.out HBW.out)
    clear HR2 HR4 HR6 HAT HB HKI HBW
    generalize wbad c p s = FB at *
    cases FB with
    | true =>
      have HCP := Lib.hid (fun (W : World) (h : Atts W (.slice ao m cp) c.key) => copied_any c ao m cp W h HFC.out)
      obtain ⟨⟨x0, x1, x2, x3, x4, x5, x6, x7, x8, x9⟩, _⟩ := cv_readsZ HR2'.out
      go_wp2_with fail
      (with_reducible refine (HCP.out _ HAT'.out).mono ?_); rintro e w2 ⟨a, n, k, rfl, hat, hab, b2⟩
      have hz2 := (b2.block _ (row_ltA HR4'.out)).trans HR4'.out
      obtain ⟨⟨z0, z1, z2, z3, z4, z5, z6, z7, z8, z9⟩, ⟨u0, u1, u2, u3, u4, u5, u6, u7, u8, u9⟩⟩ := cv_readsZ hz2
      have HZ2 := Lib.hid hz2
      have hlt4 := row_ltA hz2
      have hne4 := Nat.ne_of_lt hlt4
      have HA2 := Lib.hid hat
      have HB2 := Lib.hid (bnext HB'.out b2)
      have HQ := Lib.hid (show ∀ q, a = some q → q.block ≠ w.heap.size + 1 from fun q hq => by have := hab q hq; have := row_ltA HR4'.out; omega)
      have HNB := Lib.hid (show ∀ q, a = some q → w.heap.size ≤ q.block from fun q hq => by have := hab q hq; have := row_ltA HR4'.out; omega)
      clear hat hab b2 hz2 x0 x1 x2 x3 x4 x5 x6 x7 x8 x9
      go_wp2_with fail
      have hq := cv_stored (.int .i64 c.id) (.string (T c.proto)) (.int .i64 c.role) (.int .i64 4) (.int .i64 c.step) ((.slice a n k)) (.string (T c.own)) (.string (T c.peer)) (.string (T c.user)) (.int .i64 28) HZ2.out
      have hb4 := grown_below HB2.out hq.2 (by omega)
      obtain ⟨⟨q0, q1, q2, q3, q4, q5, q6, q7, q8, q9⟩, _⟩ := cv_readsZ (alloc_keepA (o := .cells #[.int .i64 c.id, .string (T c.proto), .int .i64 c.role, .int .i64 4, .int .i64 c.step, (.slice a n k), .string (T c.own), .string (T c.peer), .string (T c.user), .int .i64 28] 25) hq.1)
      exact bodyPost_ret (v := .tuple #[.agg #[.int .i64 c.id, .string (T c.proto), .int .i64 c.role, .int .i64 4, .int .i64 c.step, (.slice a n k), .string (T c.own), .string (T c.peer), .string (T c.user), .int .i64 28], .int .i64 28]) (by simp [results, Tryz.results12, go_sem, q0, q1, q2, q3, q4, q5, q6, q7, q8, q9]) rfl (by rw [HR0.out]; (try rw [if_pos rfl]); exact ⟨a, n, k, rfl, (HA2.out.grown hq.2 (fun q hq' => HQ.out q hq')).below ((Below.refl _ _).alloc (Nat.le_refl _) _), HNB.out, hb4.alloc hb4.size _⟩)
    | false =>
      have HSE := Lib.hid (fun (W : World) (h : Atts W (.slice ao m cp) c.key) => settled_any { c with peer := p, step := c.step + 1 } ao m cp W h ⟨HFD.out.kl, HFD.out.kf, HFD.out.ow, HFD.out.pe⟩)
      have hsl : c.step + 1 ≤ 9223372036854775807 := by have := HST.out; omega
      have hsg : -9223372036854775808 ≤ c.step + 1 := by have := HST.out; omega
      obtain ⟨⟨x0, x1, x2, x3, x4, x5, x6, x7, x8, x9⟩, ⟨y0, y1, y2, y3, y4, y5, y6, y7, y8, y9⟩⟩ := cv_readsZ HR6'.out
      have HGS := Lib.hid (grown_set (grown_refl W1 (w.heap.size + 2)) 4 (.int .i64 (c.step + 1)))
      have HZS := Lib.hid (grown_keep HGS.out HR4'.out (by omega))
      have HBS := Lib.hid (grown_below HB'.out HGS.out (by omega))
      have HATS := Lib.hid (atts_keep HAT'.out HGS.out (fun q hq hn => by have := HNE.out q hq hn; omega))
      go_wp2_with fail
      (with_reducible refine (HSE.out _ HATS.out).mono ?_); rintro e w2 ⟨a, n, k, rfl, hat, hab, b2⟩
      have hz2 := (b2.block _ (row_ltA HZS.out)).trans HZS.out
      obtain ⟨⟨z0, z1, z2, z3, z4, z5, z6, z7, z8, z9⟩, ⟨u0, u1, u2, u3, u4, u5, u6, u7, u8, u9⟩⟩ := cv_readsZ hz2
      have HZ2 := Lib.hid hz2
      have HA2 := Lib.hid hat
      have HB2 := Lib.hid (bnext HBS.out b2)
      have HQ := Lib.hid (show ∀ q, a = some q → q.block ≠ w.heap.size + 1 from fun q hq => by have := hab q hq; have := row_ltA HZS.out; omega)
      have HNB := Lib.hid (show ∀ q, a = some q → w.heap.size ≤ q.block from fun q hq => by have := hab q hq; have := row_ltA HZS.out; omega)
      clear hat hab b2 hz2 x0 x1 x2 x3 x4 x5 x6 x7 x8 x9 y0 y1 y2 y3 y4 y5 y6 y7 y8 y9
      go_wp2_with fail
      have hq := cv_stored (.int .i64 (Au.settled { c with peer := p, step := c.step + 1 }).id) (.string (T (Au.settled { c with peer := p, step := c.step + 1 }).proto)) (.int .i64 (Au.settled { c with peer := p, step := c.step + 1 }).role) (.int .i64 (Au.settled { c with peer := p, step := c.step + 1 }).phase) (.int .i64 (Au.settled { c with peer := p, step := c.step + 1 }).step) ((.slice a n k)) (.string (T (Au.settled { c with peer := p, step := c.step + 1 }).own)) (.string (T (Au.settled { c with peer := p, step := c.step + 1 }).peer)) (.string (T (Au.settled { c with peer := p, step := c.step + 1 }).user)) (.int .i64 (Au.settled { c with peer := p, step := c.step + 1 }).err) HZ2.out
      obtain ⟨⟨q0, q1, q2, q3, q4, q5, q6, q7, q8, q9⟩, _⟩ := cv_readsZ hq.1
      exact bodyPost_ret (v := .tuple #[.agg #[.int .i64 (Au.settled { c with peer := p, step := c.step + 1 }).id, .string (T (Au.settled { c with peer := p, step := c.step + 1 }).proto), .int .i64 (Au.settled { c with peer := p, step := c.step + 1 }).role, .int .i64 (Au.settled { c with peer := p, step := c.step + 1 }).phase, .int .i64 (Au.settled { c with peer := p, step := c.step + 1 }).step, (.slice a n k), .string (T (Au.settled { c with peer := p, step := c.step + 1 }).own), .string (T (Au.settled { c with peer := p, step := c.step + 1 }).peer), .string (T (Au.settled { c with peer := p, step := c.step + 1 }).user), .int .i64 (Au.settled { c with peer := p, step := c.step + 1 }).err], .int .i64 0]) (by simp [results, Tryz.results12, go_sem, q0, q1, q2, q3, q4, q5, q6, q7, q8, q9]) rfl (by rw [HR0.out]; (try rw [if_neg (by decide)]); exact ⟨a, n, k, rfl, HA2.out.grown hq.2 (fun q hq' => HQ.out q hq'), HNB.out, grown_below HB2.out hq.2 (by omega)⟩)
end Go.Proofs.YtjjdaelddicokaaGreatDoor
