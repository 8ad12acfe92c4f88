/- What auth.copied and auth.settled return. Conditions: keys and texts of at most 1000. -/
import Derived.Test.YtjjdaelddicokaaGreatDoorAuConv
set_option linter.unusedVariables false
set_option linter.unusedSimpArgs false
namespace Go.Proofs.YtjjdaelddicokaaGreatDoor
open Go.RowKit
open Au (Att Cnv)
theorem grown_refl (W : World) (p : Nat) : W.grownBy W (some p) := ⟨rfl, rfl, rfl, Nat.le_refl _, fun _ _ _ => rfl⟩
theorem grown_set {W W' : World} {p : Nat} (h : W.grownBy W' (some p)) (o : Nat) (u : Value) : W.grownBy (W'.setCell ⟨p, o, none⟩ u) (some p) :=
  ⟨h.os, h.tape, h.output, by simpa using h.size, fun k hk hne => by rw [Below.heap_setCell _ _ _ _ (fun e => hne (by rw [show k = p from e]))]; exact h.block k hk hne⟩
theorem grown_below {w W W' : World} {p : Nat} (h : Below w.heap.size w W) (hg : W.grownBy W' (some p)) (hp : w.heap.size ≤ p) : Below w.heap.size w W' := h.grown hg h.size (fun k hk => by cases hk; exact hp)
theorem grown_keep {W W' : World} {p g : Nat} {o : Obj} (hg : W.grownBy W' (some p)) (h : W.heap[g]? = some o) (hne : g ≠ p) : W'.heap[g]? = some o := (hg.block g (row_ltA h) (fun e => hne (Option.some.inj e))).trans h
theorem aafter2 {w w1 : World} {A B : Obj} (hb : Below ((w.alloc A).alloc B).heap.size ((w.alloc A).alloc B) w1) : w1.heap[w.heap.size]? = some A ∧ w1.heap[w.heap.size + 1]? = some B ∧ Below w.heap.size w w1 := by
  refine ⟨(hb.block _ (by simp; omega)).trans ((Lib.alloc_old _ _ _ (by simp)).trans (heap_alloc_new _ _)), (hb.block _ (by simp)).trans ?_, (((Below.refl _ _).alloc (Nat.le_refl _) _).alloc (by simp) _).trans (hb.mono (by simp; omega))⟩
  have := heap_alloc_new (w.alloc A) B
  simpa using this
theorem Atts.grown {W W' : World} {p : Nat} {ao : Option Addr} {n cp : Nat} {l : List Att} (h : Atts W (.slice ao n cp) l) (hg : W.grownBy W' (some p)) (hne : ∀ q, ao = some q → q.block ≠ p) : Atts W' (.slice ao n cp) l := by
  obtain ⟨ao', cap', hv, hc, hn, hcell⟩ := h
  cases hv
  refine ⟨ao, cp, rfl, hc, hn, fun j hj => ?_⟩
  obtain ⟨b, off, ha, hlt, c0, c1, c2⟩ := hcell j hj
  have hk : W'.heap[b]? = W.heap[b]? := hg.block b hlt (fun e => hne _ ha (Option.some.inj e))
  have hcl : ∀ i, W'.cell? ⟨b, i, none⟩ = W.cell? ⟨b, i, none⟩ := fun i => by simp only [World.cell?, hk]
  exact ⟨b, off, ha, Nat.lt_of_lt_of_le hlt hg.size, (hcl _).trans c0, (hcl _).trans c1, (hcl _).trans c2⟩
theorem atts_keep {W W' : World} {p : Nat} {ao : Option Addr} {n cp : Nat} {l : List Att} (h : Atts W (.slice ao n cp) l) (hg : W.grownBy W' (some p)) (hne : ∀ q, ao = some q → l ≠ [] → q.block ≠ p) : Atts W' (.slice ao n cp) l := by
  obtain ⟨ao', cap', hv, hc, hn, hcell⟩ := h
  cases hv
  refine ⟨ao, cp, rfl, hc, hn, fun j hj => ?_⟩
  obtain ⟨b, off, ha, hlt, c0, c1, c2⟩ := hcell j hj
  have hk : W'.heap[b]? = W.heap[b]? := hg.block b hlt (fun e => hne _ ha (fun e => by rw [e] at hj; simp at hj) (Option.some.inj e))
  have hcl : ∀ i, W'.cell? ⟨b, i, none⟩ = W.cell? ⟨b, i, none⟩ := fun i => by simp only [World.cell?, hk]
  exact ⟨b, off, ha, Nat.lt_of_lt_of_le hlt hg.size, (hcl _).trans c0, (hcl _).trans c1, (hcl _).trans c2⟩
/-- A whole conversation stored. -/
theorem cv_stored {W : World} {g : Nat} {t : TypeId} {a0 a1 a2 a3 a4 a5 a6 a7 a8 a9 : Value} (b0 b1 b2 b3 b4 b5 b6 b7 b8 b9 : Value) (h : W.heap[g]? = some (.cells #[a0, a1, a2, a3, a4, a5, a6, a7, a8, a9] t (0, 0))) :
    ((((((((((W.setCell ⟨g, 0, none⟩ b0).setCell ⟨g, 1, none⟩ b1).setCell ⟨g, 2, none⟩ b2).setCell ⟨g, 3, none⟩ b3).setCell ⟨g, 4, none⟩ b4).setCell ⟨g, 5, none⟩ b5).setCell ⟨g, 6, none⟩ b6).setCell ⟨g, 7, none⟩ b7).setCell ⟨g, 8, none⟩ b8).setCell ⟨g, 9, none⟩ b9).heap[g]? = some (.cells #[b0, b1, b2, b3, b4, b5, b6, b7, b8, b9] t (0, 0)) ∧ W.grownBy ((((((((((W.setCell ⟨g, 0, none⟩ b0).setCell ⟨g, 1, none⟩ b1).setCell ⟨g, 2, none⟩ b2).setCell ⟨g, 3, none⟩ b3).setCell ⟨g, 4, none⟩ b4).setCell ⟨g, 5, none⟩ b5).setCell ⟨g, 6, none⟩ b6).setCell ⟨g, 7, none⟩ b7).setCell ⟨g, 8, none⟩ b8).setCell ⟨g, 9, none⟩ b9) (some g) := by
  have h0 : (W.setCell ⟨g, 0, none⟩ b0).heap[g]? = some (.cells #[b0, a1, a2, a3, a4, a5, a6, a7, a8, a9] t (0, 0)) := heap_setCell_same _ g 0 _ _ b0 h
  have h1 : ((W.setCell ⟨g, 0, none⟩ b0).setCell ⟨g, 1, none⟩ b1).heap[g]? = some (.cells #[b0, b1, a2, a3, a4, a5, a6, a7, a8, a9] t (0, 0)) := heap_setCell_same _ g 1 _ _ b1 h0
  have h2 : (((W.setCell ⟨g, 0, none⟩ b0).setCell ⟨g, 1, none⟩ b1).setCell ⟨g, 2, none⟩ b2).heap[g]? = some (.cells #[b0, b1, b2, a3, a4, a5, a6, a7, a8, a9] t (0, 0)) := heap_setCell_same _ g 2 _ _ b2 h1
  have h3 : ((((W.setCell ⟨g, 0, none⟩ b0).setCell ⟨g, 1, none⟩ b1).setCell ⟨g, 2, none⟩ b2).setCell ⟨g, 3, none⟩ b3).heap[g]? = some (.cells #[b0, b1, b2, b3, a4, a5, a6, a7, a8, a9] t (0, 0)) := heap_setCell_same _ g 3 _ _ b3 h2
  have h4 : (((((W.setCell ⟨g, 0, none⟩ b0).setCell ⟨g, 1, none⟩ b1).setCell ⟨g, 2, none⟩ b2).setCell ⟨g, 3, none⟩ b3).setCell ⟨g, 4, none⟩ b4).heap[g]? = some (.cells #[b0, b1, b2, b3, b4, a5, a6, a7, a8, a9] t (0, 0)) := heap_setCell_same _ g 4 _ _ b4 h3
  have h5 : ((((((W.setCell ⟨g, 0, none⟩ b0).setCell ⟨g, 1, none⟩ b1).setCell ⟨g, 2, none⟩ b2).setCell ⟨g, 3, none⟩ b3).setCell ⟨g, 4, none⟩ b4).setCell ⟨g, 5, none⟩ b5).heap[g]? = some (.cells #[b0, b1, b2, b3, b4, b5, a6, a7, a8, a9] t (0, 0)) := heap_setCell_same _ g 5 _ _ b5 h4
  have h6 : (((((((W.setCell ⟨g, 0, none⟩ b0).setCell ⟨g, 1, none⟩ b1).setCell ⟨g, 2, none⟩ b2).setCell ⟨g, 3, none⟩ b3).setCell ⟨g, 4, none⟩ b4).setCell ⟨g, 5, none⟩ b5).setCell ⟨g, 6, none⟩ b6).heap[g]? = some (.cells #[b0, b1, b2, b3, b4, b5, b6, a7, a8, a9] t (0, 0)) := heap_setCell_same _ g 6 _ _ b6 h5
  have h7 : ((((((((W.setCell ⟨g, 0, none⟩ b0).setCell ⟨g, 1, none⟩ b1).setCell ⟨g, 2, none⟩ b2).setCell ⟨g, 3, none⟩ b3).setCell ⟨g, 4, none⟩ b4).setCell ⟨g, 5, none⟩ b5).setCell ⟨g, 6, none⟩ b6).setCell ⟨g, 7, none⟩ b7).heap[g]? = some (.cells #[b0, b1, b2, b3, b4, b5, b6, b7, a8, a9] t (0, 0)) := heap_setCell_same _ g 7 _ _ b7 h6
  have h8 : (((((((((W.setCell ⟨g, 0, none⟩ b0).setCell ⟨g, 1, none⟩ b1).setCell ⟨g, 2, none⟩ b2).setCell ⟨g, 3, none⟩ b3).setCell ⟨g, 4, none⟩ b4).setCell ⟨g, 5, none⟩ b5).setCell ⟨g, 6, none⟩ b6).setCell ⟨g, 7, none⟩ b7).setCell ⟨g, 8, none⟩ b8).heap[g]? = some (.cells #[b0, b1, b2, b3, b4, b5, b6, b7, b8, a9] t (0, 0)) := heap_setCell_same _ g 8 _ _ b8 h7
  have h9 : ((((((((((W.setCell ⟨g, 0, none⟩ b0).setCell ⟨g, 1, none⟩ b1).setCell ⟨g, 2, none⟩ b2).setCell ⟨g, 3, none⟩ b3).setCell ⟨g, 4, none⟩ b4).setCell ⟨g, 5, none⟩ b5).setCell ⟨g, 6, none⟩ b6).setCell ⟨g, 7, none⟩ b7).setCell ⟨g, 8, none⟩ b8).setCell ⟨g, 9, none⟩ b9).heap[g]? = some (.cells #[b0, b1, b2, b3, b4, b5, b6, b7, b8, b9] t (0, 0)) := heap_setCell_same _ g 9 _ _ b9 h8
  exact ⟨h9, grown_set (grown_set (grown_set (grown_set (grown_set (grown_set (grown_set (grown_set (grown_set (grown_set (grown_refl W g) 0 b0) 1 b1) 2 b2) 3 b3) 4 b4) 5 b5) 6 b6) 7 b7) 8 b8) 9 b9⟩
theorem cv_readsZ {W : World} {g : Nat} {t : TypeId} {a0 a1 a2 a3 a4 a5 a6 a7 a8 a9 : Value} (h : W.heap[g]? = some (.cells #[a0, a1, a2, a3, a4, a5, a6, a7, a8, a9] t (0, 0))) :
    (W.cell? ⟨g, 0, none⟩ = some a0 ∧ W.cell? ⟨g, 1, none⟩ = some a1 ∧ W.cell? ⟨g, 2, none⟩ = some a2 ∧ W.cell? ⟨g, 3, none⟩ = some a3 ∧ W.cell? ⟨g, 4, none⟩ = some a4 ∧ W.cell? ⟨g, 5, none⟩ = some a5 ∧ W.cell? ⟨g, 6, none⟩ = some a6 ∧ W.cell? ⟨g, 7, none⟩ = some a7 ∧ W.cell? ⟨g, 8, none⟩ = some a8 ∧ W.cell? ⟨g, 9, none⟩ = some a9) ∧ (W.frozen? ⟨g, 0, none⟩ = false ∧ W.frozen? ⟨g, 1, none⟩ = false ∧ W.frozen? ⟨g, 2, none⟩ = false ∧ W.frozen? ⟨g, 3, none⟩ = false ∧ W.frozen? ⟨g, 4, none⟩ = false ∧ W.frozen? ⟨g, 5, none⟩ = false ∧ W.frozen? ⟨g, 6, none⟩ = false ∧ W.frozen? ⟨g, 7, none⟩ = false ∧ W.frozen? ⟨g, 8, none⟩ = false ∧ W.frozen? ⟨g, 9, none⟩ = false) := by
  refine ⟨⟨?_, ?_, ?_, ?_, ?_, ?_, ?_, ?_, ?_, ?_⟩, ?_, ?_, ?_, ?_, ?_, ?_, ?_, ?_, ?_, ?_⟩
  all_goals first
    | (rw [cell_of_row _ _ _ _ _ _ h]; rfl)
    | (exact frozen_of_rowA h _)
set_option maxRecDepth 20000 in
set_option maxHeartbeats 4000000 in
theorem copied_any (c : Cnv) (ao : Option Addr) (m cp : Nat) (w : World) (hk : Atts w (.slice ao m cp) c.key) (hf : Fine c) :
    Calls Tryz.prog 26 #[.agg #[.int .i64 c.id, .string (T c.proto), .int .i64 c.role, .int .i64 c.phase, .int .i64 c.step, (.slice ao m cp), .string (T c.own), .string (T c.peer), .string (T c.user), .int .i64 c.err]] w fun e w' => ∃ a n k, e = .returned (.agg #[.int .i64 c.id, .string (T c.proto), .int .i64 c.role, .int .i64 c.phase, .int .i64 c.step, (.slice a n k), .string (T c.own), .string (T c.peer), .string (T c.user), .int .i64 c.err]) ∧ Atts w' (.slice a n k) c.key ∧ (∀ q, a = some q → w.heap.size ≤ q.block) ∧ Below w.heap.size w w' := by
  have HCN := Lib.hid (fun (W : World) (hb : Below w.heap.size w W) => aclone_any (.slice ao m cp) c.key W (hk.below hb) (by have := hf.kl; omega))
  have HB0 := Lib.hid ((((Below.refl w.heap.size w).alloc (Nat.le_refl _) (.cells #[.int .i64 c.id, .string (T c.proto), .int .i64 c.role, .int .i64 c.phase, .int .i64 c.step, (.slice ao m cp), .string (T c.own), .string (T c.peer), .string (T c.user), .int .i64 c.err] 25)).alloc (by simp) (.cells #[.int .i64 0, .string (T []), .int .i64 0, .int .i64 0, .int .i64 0, .slice none 0 0, .string (T []), .string (T []), .string (T []), .int .i64 0] 25)))
  clear hk hf
  go_enter Tryz.func26, Tryz.ntmps26
  go_wp2_with fail
  (with_reducible refine (HCN.out _ HB0.out).mono ?_); rintro e w1 ⟨a, n, k, rfl, hat, hab, b1⟩
  obtain ⟨rw1, zw1, bb1⟩ := aafter2 b1
  have hne0 : ∀ q, a = some q → q.block ≠ w.heap.size := fun q hq => by have := hab q hq; simp at this; omega
  have hne1 : ∀ q, a = some q → q.block ≠ w.heap.size + 1 := fun q hq => by have := hab q hq; simp at this; omega
  have HR := Lib.hid (heap_setCell_same w1 w.heap.size 5 _ _ (.slice a n k) rw1)
  have HZ := Lib.hid (grown_keep (grown_set (grown_refl w1 w.heap.size) 5 (.slice a n k)) zw1 (by omega))
  have HAT := Lib.hid (hat.grown (grown_set (grown_refl w1 w.heap.size) 5 (.slice a n k)) hne0)
  have HBB := Lib.hid (grown_below bb1 (grown_set (grown_refl w1 w.heap.size) 5 (.slice a n k)) (Nat.le_refl _))
  have HN1 := Lib.hid hne1
  have HNB := Lib.hid (show ∀ q, a = some q → w.heap.size ≤ q.block from fun q hq => by have := hab q hq; simp at this; omega)
  obtain ⟨⟨x0, x1, x2, x3, x4, x5, x6, x7, x8, x9⟩, ⟨y0, y1, y2, y3, y4, y5, y6, y7, y8, y9⟩⟩ := cv_reads rw1
  obtain ⟨⟨z0, z1, z2, z3, z4, z5, z6, z7, z8, z9⟩, ⟨u0, u1, u2, u3, u4, u5, u6, u7, u8, u9⟩⟩ := cv_readsZ zw1
  clear hat hab b1 rw1 zw1 bb1 hne0 hne1
  go_wp2_with fail
  have hq := cv_stored (.int .i64 c.id) (.string (T c.proto)) (.int .i64 c.role) (.int .i64 c.phase) (.int .i64 c.step) ((.slice a n k)) (.string (T c.own)) (.string (T c.peer)) (.string (T c.user)) (.int .i64 c.err) HZ.out
  obtain ⟨⟨q0, q1, q2, q3, q4, q5, q6, q7, q8, q9⟩, _⟩ := cv_readsZ hq.1
  exact bodyPost_ret (v := .agg #[.int .i64 c.id, .string (T c.proto), .int .i64 c.role, .int .i64 c.phase, .int .i64 c.step, (.slice a n k), .string (T c.own), .string (T c.peer), .string (T c.user), .int .i64 c.err]) (by simp [results, Tryz.results26, go_sem, q0, q1, q2, q3, q4, q5, q6, q7, q8, q9]) rfl ⟨a, n, k, rfl, HAT.out.grown hq.2 HN1.out, HNB.out, grown_below HBB.out hq.2 (by omega)⟩
set_option maxRecDepth 20000 in
set_option maxHeartbeats 8000000 in
theorem settled_any (c : Cnv) (ao : Option Addr) (m cp : Nat) (w : World) (hk : Atts w (.slice ao m cp) c.key) (hf : Fine c) :
    Calls Tryz.prog 28 #[.agg #[.int .i64 c.id, .string (T c.proto), .int .i64 c.role, .int .i64 c.phase, .int .i64 c.step, (.slice ao m cp), .string (T c.own), .string (T c.peer), .string (T c.user), .int .i64 c.err]] w fun e w' => ∃ a n k, e = .returned (.agg #[.int .i64 (Au.settled c).id, .string (T (Au.settled c).proto), .int .i64 (Au.settled c).role, .int .i64 (Au.settled c).phase, .int .i64 (Au.settled c).step, (.slice a n k), .string (T (Au.settled c).own), .string (T (Au.settled c).peer), .string (T (Au.settled c).user), .int .i64 (Au.settled c).err]) ∧ Atts w' (.slice a n k) c.key ∧ (∀ q, a = some q → w.heap.size ≤ q.block) ∧ Below w.heap.size w w' := by
  have HCN := Lib.hid (fun (W : World) (hb : Below w.heap.size w W) => aclone_any (.slice ao m cp) c.key W (hk.below hb) (by have := hf.kl; omega))
  have HPH := Lib.hid (fun (a : Option Addr) (n k : Nat) (W : World) => phase_any c a n k W)
  have HU := Lib.hid (fun (a : Option Addr) (n k : Nat) (W : World) (h : Atts W (.slice a n k) c.key) => show Calls Tryz.prog 48 #[.agg #[.int .i64 c.id, .string (T c.proto), .int .i64 c.role, .int .i64 3, .int .i64 c.step, (.slice a n k), .string (T c.own), .string (T c.peer), .string (T []), .int .i64 c.err], .string (T [117, 115, 101, 114])] W fun e w' => e = .returned (.string (T (Au.user c.key))) ∧ Below W.heap.size W w' from tval_any { c with phase := 3, user := [] } (.slice a n k) Au.sUser W h ⟨hf.kl, hf.kf, hf.ow, hf.pe⟩)
  have HB0 := Lib.hid ((((Below.refl w.heap.size w).alloc (Nat.le_refl _) (.cells #[.int .i64 c.id, .string (T c.proto), .int .i64 c.role, .int .i64 c.phase, .int .i64 c.step, (.slice ao m cp), .string (T c.own), .string (T c.peer), .string (T c.user), .int .i64 c.err] 25)).alloc (by simp) (.cells #[.int .i64 0, .string (T []), .int .i64 0, .int .i64 0, .int .i64 0, .slice none 0 0, .string (T []), .string (T []), .string (T []), .int .i64 0] 25)))
  obtain ⟨ph, hph⟩ : ∃ ph, Au.phase c = ph := ⟨_, rfl⟩
  have HSE := Lib.hid (show (Au.settled c).phase = ph ∧ (Au.settled c).user = if ph = 3 then Au.user c.key else [] from by rw [← hph]; exact ⟨rfl, rfl⟩)
  have HSF := Lib.hid (show (Au.settled c).id = c.id ∧ (Au.settled c).proto = c.proto ∧ (Au.settled c).role = c.role ∧ (Au.settled c).step = c.step ∧ (Au.settled c).own = c.own ∧ (Au.settled c).peer = c.peer ∧ (Au.settled c).err = c.err from ⟨rfl, rfl, rfl, rfl, rfl, rfl, rfl⟩)
  rw [hph] at HPH
  clear hk hf hph
  obtain ⟨s0, s1, s2, s4, s6, s7, s9⟩ := HSF.out
  rw [s0, s1, s2, s4, s6, s7, s9, HSE.out.1, HSE.out.2]
  clear s0 s1 s2 s4 s6 s7 s9 HSF HSE
  by_cases h3 : ph = 3
  · subst h3
    rw [if_pos rfl]
    go_enter Tryz.func28, Tryz.ntmps28
    go_wp2_with fail
    (with_reducible refine (HCN.out _ HB0.out).mono ?_); rintro e w1 ⟨a, n, k, rfl, hat, hab, b1⟩
    obtain ⟨rw1, zw1, bb1⟩ := aafter2 b1
    have HN0 := Lib.hid (show ∀ q, a = some q → q.block ≠ w.heap.size from fun q hq => by have := hab q hq; simp at this; omega)
    have HN1 := Lib.hid (show ∀ q, a = some q → q.block ≠ w.heap.size + 1 from fun q hq => by have := hab q hq; simp at this; omega)
    have HNB := Lib.hid (show ∀ q, a = some q → w.heap.size ≤ q.block from fun q hq => by have := hab q hq; simp at this; omega)
    have HR1 := Lib.hid (heap_setCell_same w1 w.heap.size 5 _ _ (.slice a n k) rw1)
    have HZ1 := Lib.hid (grown_keep (grown_set (grown_refl w1 w.heap.size) 5 (.slice a n k)) zw1 (by omega))
    have HAT1 := Lib.hid (hat.grown (grown_set (grown_refl w1 w.heap.size) 5 (.slice a n k)) HN0.out)
    have HBB1 := Lib.hid (grown_below bb1 (grown_set (grown_refl w1 w.heap.size) 5 (.slice a n k)) (Nat.le_refl _))
    obtain ⟨⟨x0, x1, x2, x3, x4, x5, x6, x7, x8, x9⟩, ⟨y0, y1, y2, y3, y4, y5, y6, y7, y8, y9⟩⟩ := cv_reads rw1
    clear hat hab b1 rw1 zw1 bb1
    go_wp2_with fail
    (with_reducible refine (HPH.out a n k _).mono ?_); rintro e w2 ⟨rfl, b2⟩
    have hr2 := (b2.block _ (row_ltA HR1.out)).trans HR1.out
    have hz2 := (b2.block _ (row_ltA HZ1.out)).trans HZ1.out
    have hg2 := fun (v1 v2 : Value) => grown_set (grown_set (grown_refl w2 w.heap.size) 3 v1) 8 v2
    have HR := Lib.hid (heap_setCell_same _ w.heap.size 8 _ _ (.string (T [])) (heap_setCell_same w2 w.heap.size 3 _ _ (.int .i64 3) hr2))
    have HZ := Lib.hid (grown_keep (hg2 (.int .i64 3) (.string (T []))) hz2 (by omega))
    have HAT := Lib.hid ((HAT1.out.below b2).grown (hg2 (.int .i64 3) (.string (T []))) HN0.out)
    have HBB := Lib.hid (grown_below (bnext HBB1.out b2) (hg2 (.int .i64 3) (.string (T []))) (Nat.le_refl _))
    clear x0 x1 x2 x3 x4 x5 x6 x7 x8 x9 y0 y1 y2 y3 y4 y5 y6 y7 y8 y9
    obtain ⟨⟨x0, x1, x2, x3, x4, x5, x6, x7, x8, x9⟩, ⟨y0, y1, y2, y3, y4, y5, y6, y7, y8, y9⟩⟩ := cv_readsZ hr2
    obtain ⟨⟨z0, z1, z2, z3, z4, z5, z6, z7, z8, z9⟩, ⟨u0, u1, u2, u3, u4, u5, u6, u7, u8, u9⟩⟩ := cv_readsZ hz2
    clear b2 hr2 hz2 hg2 HR1 HZ1 HAT1 HBB1
    go_wp2_with fail
    (with_reducible refine (HU.out a n k _ HAT.out).mono ?_); rintro e w3 ⟨rfl, b3⟩
    have HR3 := Lib.hid (heap_setCell_same w3 w.heap.size 8 _ _ (.string (T (Au.user c.key))) ((b3.block _ (row_ltA HR.out)).trans HR.out))
    have hz3 := (b3.block _ (row_ltA HZ.out)).trans HZ.out
    have hr3 := (b3.block _ (row_ltA HR.out)).trans HR.out
    have HZ3 := Lib.hid (grown_keep (grown_set (grown_refl w3 w.heap.size) 8 (.string (T (Au.user c.key)))) hz3 (by omega))
    have HAT3 := Lib.hid ((HAT.out.below b3).grown (grown_set (grown_refl w3 w.heap.size) 8 (.string (T (Au.user c.key)))) HN0.out)
    have HBB3 := Lib.hid (grown_below (bnext HBB.out b3) (grown_set (grown_refl w3 w.heap.size) 8 (.string (T (Au.user c.key)))) (Nat.le_refl _))
    clear x0 x1 x2 x3 x4 x5 x6 x7 x8 x9 y0 y1 y2 y3 y4 y5 y6 y7 y8 y9 z0 z1 z2 z3 z4 z5 z6 z7 z8 z9 u0 u1 u2 u3 u4 u5 u6 u7 u8 u9
    obtain ⟨⟨x0, x1, x2, x3, x4, x5, x6, x7, x8, x9⟩, ⟨y0, y1, y2, y3, y4, y5, y6, y7, y8, y9⟩⟩ := cv_readsZ hr3
    obtain ⟨⟨z0, z1, z2, z3, z4, z5, z6, z7, z8, z9⟩, ⟨u0, u1, u2, u3, u4, u5, u6, u7, u8, u9⟩⟩ := cv_readsZ hz3
    clear b3 hz3 hr3 HR HZ HAT HBB
    go_wp2_with fail
    have hq := cv_stored (.int .i64 c.id) (.string (T c.proto)) (.int .i64 c.role) (.int .i64 3) (.int .i64 c.step) ((.slice a n k)) (.string (T c.own)) (.string (T c.peer)) (.string (T (Au.user c.key))) (.int .i64 c.err) HZ3.out
    obtain ⟨⟨q0, q1, q2, q3, q4, q5, q6, q7, q8, q9⟩, _⟩ := cv_readsZ hq.1
    exact bodyPost_ret (v := .agg #[.int .i64 c.id, .string (T c.proto), .int .i64 c.role, .int .i64 3, .int .i64 c.step, (.slice a n k), .string (T c.own), .string (T c.peer), .string (T (Au.user c.key)), .int .i64 c.err]) (by simp [results, Tryz.results28, go_sem, q0, q1, q2, q3, q4, q5, q6, q7, q8, q9]) rfl ⟨a, n, k, rfl, HAT3.out.grown hq.2 HN1.out, HNB.out, grown_below HBB3.out hq.2 (by omega)⟩
  · have e3 : (ph == 3) = false := beq_eq_false_iff_ne.2 h3
    rw [if_neg h3]
    clear HU
    go_enter Tryz.func28, Tryz.ntmps28
    go_wp2_with fail
    (with_reducible refine (HCN.out _ HB0.out).mono ?_); rintro e w1 ⟨a, n, k, rfl, hat, hab, b1⟩
    obtain ⟨rw1, zw1, bb1⟩ := aafter2 b1
    have HN0 := Lib.hid (show ∀ q, a = some q → q.block ≠ w.heap.size from fun q hq => by have := hab q hq; simp at this; omega)
    have HN1 := Lib.hid (show ∀ q, a = some q → q.block ≠ w.heap.size + 1 from fun q hq => by have := hab q hq; simp at this; omega)
    have HNB := Lib.hid (show ∀ q, a = some q → w.heap.size ≤ q.block from fun q hq => by have := hab q hq; simp at this; omega)
    have HR1 := Lib.hid (heap_setCell_same w1 w.heap.size 5 _ _ (.slice a n k) rw1)
    have HZ1 := Lib.hid (grown_keep (grown_set (grown_refl w1 w.heap.size) 5 (.slice a n k)) zw1 (by omega))
    have HAT1 := Lib.hid (hat.grown (grown_set (grown_refl w1 w.heap.size) 5 (.slice a n k)) HN0.out)
    have HBB1 := Lib.hid (grown_below bb1 (grown_set (grown_refl w1 w.heap.size) 5 (.slice a n k)) (Nat.le_refl _))
    obtain ⟨⟨x0, x1, x2, x3, x4, x5, x6, x7, x8, x9⟩, ⟨y0, y1, y2, y3, y4, y5, y6, y7, y8, y9⟩⟩ := cv_reads rw1
    clear hat hab b1 rw1 zw1 bb1
    go_wp2_with fail
    (with_reducible refine (HPH.out a n k _).mono ?_); rintro e w2 ⟨rfl, b2⟩
    have hr2 := (b2.block _ (row_ltA HR1.out)).trans HR1.out
    have hz2 := (b2.block _ (row_ltA HZ1.out)).trans HZ1.out
    have hg2 := fun (v1 v2 : Value) => grown_set (grown_set (grown_refl w2 w.heap.size) 3 v1) 8 v2
    have HR := Lib.hid (heap_setCell_same _ w.heap.size 8 _ _ (.string (T [])) (heap_setCell_same w2 w.heap.size 3 _ _ (.int .i64 ph) hr2))
    have HZ := Lib.hid (grown_keep (hg2 (.int .i64 ph) (.string (T []))) hz2 (by omega))
    have HAT := Lib.hid ((HAT1.out.below b2).grown (hg2 (.int .i64 ph) (.string (T []))) HN0.out)
    have HBB := Lib.hid (grown_below (bnext HBB1.out b2) (hg2 (.int .i64 ph) (.string (T []))) (Nat.le_refl _))
    clear x0 x1 x2 x3 x4 x5 x6 x7 x8 x9 y0 y1 y2 y3 y4 y5 y6 y7 y8 y9
    obtain ⟨⟨x0, x1, x2, x3, x4, x5, x6, x7, x8, x9⟩, ⟨y0, y1, y2, y3, y4, y5, y6, y7, y8, y9⟩⟩ := cv_readsZ hr2
    obtain ⟨⟨z0, z1, z2, z3, z4, z5, z6, z7, z8, z9⟩, ⟨u0, u1, u2, u3, u4, u5, u6, u7, u8, u9⟩⟩ := cv_readsZ hz2
    clear b2 hr2 hz2 hg2 HR1 HZ1 HAT1 HBB1
    go_wp2_with fail
    have hq := cv_stored (.int .i64 c.id) (.string (T c.proto)) (.int .i64 c.role) (.int .i64 ph) (.int .i64 c.step) ((.slice a n k)) (.string (T c.own)) (.string (T c.peer)) (.string (T [])) (.int .i64 c.err) HZ.out
    obtain ⟨⟨q0, q1, q2, q3, q4, q5, q6, q7, q8, q9⟩, _⟩ := cv_readsZ hq.1
    exact bodyPost_ret (v := .agg #[.int .i64 c.id, .string (T c.proto), .int .i64 c.role, .int .i64 ph, .int .i64 c.step, (.slice a n k), .string (T c.own), .string (T c.peer), .string (T []), .int .i64 c.err]) (by simp [results, Tryz.results28, go_sem, q0, q1, q2, q3, q4, q5, q6, q7, q8, q9]) rfl ⟨a, n, k, rfl, HAT.out.grown hq.2 HN1.out, HNB.out, grown_below HBB.out hq.2 (by omega)⟩
end Go.Proofs.YtjjdaelddicokaaGreatDoor
