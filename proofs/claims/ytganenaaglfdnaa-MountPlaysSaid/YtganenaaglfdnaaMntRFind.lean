/- What the reference's at and in return. Conditions: the slice holds the given list; at most 10^6 elements. -/
import Derived.Test.YtganenaaglfdnaaMntFind
import Derived.Deep.RegionHeldLaw
import Derived.Deep.DeepCutAuto
set_option linter.unusedVariables false
set_option linter.unusedSimpArgs false
namespace Go.Proofs.Ytganenaaglfdnaa
open Go.RowKit
theorem cell_next {W W' : World} {a : Addr} {v : Value} (h : W.cell? a = some v) (hb : Below W.heap.size W W') : W'.cell? a = some v := by
  rw [hb.cell (p := a) (World.block_lt_of_cell? W a h)]; exact h
theorem row_lt {w : World} {b : Nat} {o : Obj} (h : w.heap[b]? = some o) : b < w.heap.size := by
  rcases Nat.lt_or_ge b w.heap.size with h' | h'
  · exact h'
  · simp [Array.getElem?_eq_none h'] at h
set_option maxRecDepth 20000 in
set_option maxHeartbeats 2000000 in
theorem rin_any (v : Value) (l : List Tgt) (c : Chn) (w : World) (hv : Tgts w v l) (hl : l.length ≤ 1000000) :
    Calls Try.prog 37 #[v, chv c] w fun e w' => e = .returned (.int .i64 (Ns.ix (fun t => Ns.same t.ch c) l)) ∧ Below w.heap.size w w' := by
  obtain ⟨ao, cp, rfl, hc, hn, hcell⟩ := hv
  have HC := Lib.hid hcell
  have HI := Lib.hid (Ns.ix_at (fun t : Tgt => Ns.same t.ch c) l)
  have HN := Lib.hid (Ns.ix_none (fun t : Tgt => Ns.same t.ch c) l)
  have HB0 := Lib.hid (Below.refl w.heap.size w)
  clear hcell hn
  have hrow := heap_alloc_new w (.cells #[.int .i64 c.dev, .int .i64 c.id, .int .i64 c.fid, .string (T c.path), .string (T c.name)] 23)
  have HROW := Lib.hid hrow
  clear hrow
  unfold chv
  go_enter Try.func37, Try.ntmps37
  go_wp2_with fail
  go_loopw [8] (fun i wr => ∃ k : Nat, k ≤ l.length ∧ i = .int .i64 (k : Int) ∧ Hid (∀ j (hj : j < k) (hk : k ≤ l.length), ¬ Ns.same (l[j]'(by omega)).ch c = true) ∧ wr.heap[w.heap.size]? = some (.cells #[.int .i64 c.dev, .int .i64 c.id, .int .i64 c.fid, .string (T c.path), .string (T c.name)] 23 (0, 0)) ∧ Below w.heap.size w wr) (fun i _ => l.length - (intOf i).toNat)
  case atStart => exact ⟨0, by omega, rfl, (fun j hj => by omega), HROW.out, (HB0.out.alloc (Nat.le_refl _) _)⟩
  case round =>
    obtain ⟨k, hk, rfl, hn, hr1, hb⟩ := hrel
    have q0 : wr.cell? ⟨w.heap.size, 0, none⟩ = some (.int .i64 c.dev) := by rw [cell_of_row _ _ _ _ _ _ hr1]; rfl
    have q1 : wr.cell? ⟨w.heap.size, 1, none⟩ = some (.int .i64 c.id) := by rw [cell_of_row _ _ _ _ _ _ hr1]; rfl
    have q2 : wr.cell? ⟨w.heap.size, 2, none⟩ = some (.int .i64 c.fid) := by rw [cell_of_row _ _ _ _ _ _ hr1]; rfl
    have q3 : wr.cell? ⟨w.heap.size, 3, none⟩ = some (.string (T c.path)) := by rw [cell_of_row _ _ _ _ _ _ hr1]; rfl
    have q4 : wr.cell? ⟨w.heap.size, 4, none⟩ = some (.string (T c.name)) := by rw [cell_of_row _ _ _ _ _ _ hr1]; rfl
    by_cases hlt : k < l.length
    · obtain ⟨b, off, rfl, hbl, cc, hrest⟩ := HC.out k hlt
      clear hrest
      replace cc : CCells wr b (off + k * 6) l[k].ch := by
        obtain ⟨z0, z1, z2, z3, z4⟩ := cc
        exact ⟨(hb.cell (p := ⟨b, off + k * 6, none⟩) hbl).trans z0, (hb.cell (p := ⟨b, off + k * 6 + 1, none⟩) hbl).trans z1, (hb.cell (p := ⟨b, off + k * 6 + 2, none⟩) hbl).trans z2, (hb.cell (p := ⟨b, off + k * 6 + 3, none⟩) hbl).trans z3, (hb.cell (p := ⟨b, off + k * 6 + 4, none⟩) hbl).trans z4⟩
      have HBd := Lib.hid (below_drewN hb 1)
      have HBB := Lib.hid hb
      have HR1 := Lib.hid hr1
      have HSM := Lib.hid (fun (W : World) (h : W.cell? ⟨b, off + k * 6, none⟩ = some (.int .i64 l[k].ch.dev) ∧ W.cell? ⟨b, off + k * 6 + 1, none⟩ = some (.int .i64 l[k].ch.id) ∧ W.cell? ⟨b, off + k * 6 + 2, none⟩ = some (.int .i64 l[k].ch.fid) ∧ W.cell? ⟨b, off + k * 6 + 3, none⟩ = some (.string (T l[k].ch.path)) ∧ W.cell? ⟨b, off + k * 6 + 4, none⟩ = some (.string (T l[k].ch.name)) ∧ W.cell? ⟨w.heap.size, 0, none⟩ = some (.int .i64 c.dev) ∧ W.cell? ⟨w.heap.size, 1, none⟩ = some (.int .i64 c.id) ∧ W.cell? ⟨w.heap.size, 2, none⟩ = some (.int .i64 c.fid) ∧ W.cell? ⟨w.heap.size, 3, none⟩ = some (.string (T c.path)) ∧ W.cell? ⟨w.heap.size, 4, none⟩ = some (.string (T c.name)) ∧ Below w.heap.size w W) => (rmsame_any l[k].ch c W).mono fun e w' (h' : e = .returned (.bool (Ns.same l[k].ch c)) ∧ Below W.heap.size W w') => (show e = .returned (.bool (Ns.same l[k].ch c)) ∧ (w'.cell? ⟨b, off + k * 6, none⟩ = some (.int .i64 l[k].ch.dev) ∧ w'.cell? ⟨b, off + k * 6 + 1, none⟩ = some (.int .i64 l[k].ch.id) ∧ w'.cell? ⟨b, off + k * 6 + 2, none⟩ = some (.int .i64 l[k].ch.fid) ∧ w'.cell? ⟨b, off + k * 6 + 3, none⟩ = some (.string (T l[k].ch.path)) ∧ w'.cell? ⟨b, off + k * 6 + 4, none⟩ = some (.string (T l[k].ch.name)) ∧ w'.cell? ⟨w.heap.size, 0, none⟩ = some (.int .i64 c.dev) ∧ w'.cell? ⟨w.heap.size, 1, none⟩ = some (.int .i64 c.id) ∧ w'.cell? ⟨w.heap.size, 2, none⟩ = some (.int .i64 c.fid) ∧ w'.cell? ⟨w.heap.size, 3, none⟩ = some (.string (T c.path)) ∧ w'.cell? ⟨w.heap.size, 4, none⟩ = some (.string (T c.name)) ∧ Below w.heap.size w w') ∧ Below W.heap.size W w' from by
        obtain ⟨h0, h1, h2, h3, h4, h5, h6, h7, h8, h9, hbb⟩ := h
        exact ⟨h'.1, ⟨cell_next h0 h'.2, cell_next h1 h'.2, cell_next h2 h'.2, cell_next h3 h'.2, cell_next h4 h'.2, cell_next h5 h'.2, cell_next h6 h'.2, cell_next h7 h'.2, cell_next h8 h'.2, cell_next h9 h'.2, bnext hbb h'.2⟩, h'.2⟩))
      unfold chv at HSM
      have hki : (k : Int) < l.length := by omega
      clear hb
      by_cases he : Ns.same l[k].ch c = true
      · have HF := Lib.hid (HI.out k hlt (fun j hj => hn.out j hj (by omega)) he)
        rw [he] at HSM
        clear he
        go_upto_region 4 with fail
        go_region_held_law (fun w' => w'.cell? ⟨b, off + k * 6, none⟩ = some (.int .i64 l[k].ch.dev) ∧ w'.cell? ⟨b, off + k * 6 + 1, none⟩ = some (.int .i64 l[k].ch.id) ∧ w'.cell? ⟨b, off + k * 6 + 2, none⟩ = some (.int .i64 l[k].ch.fid) ∧ w'.cell? ⟨b, off + k * 6 + 3, none⟩ = some (.string (T l[k].ch.path)) ∧ w'.cell? ⟨b, off + k * 6 + 4, none⟩ = some (.string (T l[k].ch.name)) ∧ w'.cell? ⟨w.heap.size, 0, none⟩ = some (.int .i64 c.dev) ∧ w'.cell? ⟨w.heap.size, 1, none⟩ = some (.int .i64 c.id) ∧ w'.cell? ⟨w.heap.size, 2, none⟩ = some (.int .i64 c.fid) ∧ w'.cell? ⟨w.heap.size, 3, none⟩ = some (.string (T c.path)) ∧ w'.cell? ⟨w.heap.size, 4, none⟩ = some (.string (T c.name)) ∧ Below w.heap.size w w') (first | assumption | exact ⟨cc.1, cc.2.1, cc.2.2.1, cc.2.2.2.1, cc.2.2.2.2, q0, q1, q2, q3, q4, HBd.out⟩) (first | (go_at_call 48; with_reducible refine (HSM.out _ (by assumption)).mono ?_; rintro e w' ⟨rfl, hkeep, b1⟩))
        have HBZ := Lib.hid hkeep.2.2.2.2.2.2.2.2.2.2
        clear hkeep cc q0 q1 q2 q3 q4
        go_wp2_with fail
        go_ret
        exact ⟨by rw [HF.out]; rfl, HBZ.out⟩
      · have HF : Hid (∀ j (hj : j < k + 1) (hk : k + 1 ≤ l.length), ¬ Ns.same (l[j]'(by omega)).ch c = true) := fun j hj hk' => by
          rcases Nat.lt_or_ge j k with h | h
          · exact hn.out j h (by omega)
          · obtain rfl : j = k := by omega
            exact he
        rw [Bool.eq_false_iff.2 he] at HSM
        clear he
        go_upto_region 4 with fail
        go_region_held_law (fun w' => w'.cell? ⟨b, off + k * 6, none⟩ = some (.int .i64 l[k].ch.dev) ∧ w'.cell? ⟨b, off + k * 6 + 1, none⟩ = some (.int .i64 l[k].ch.id) ∧ w'.cell? ⟨b, off + k * 6 + 2, none⟩ = some (.int .i64 l[k].ch.fid) ∧ w'.cell? ⟨b, off + k * 6 + 3, none⟩ = some (.string (T l[k].ch.path)) ∧ w'.cell? ⟨b, off + k * 6 + 4, none⟩ = some (.string (T l[k].ch.name)) ∧ w'.cell? ⟨w.heap.size, 0, none⟩ = some (.int .i64 c.dev) ∧ w'.cell? ⟨w.heap.size, 1, none⟩ = some (.int .i64 c.id) ∧ w'.cell? ⟨w.heap.size, 2, none⟩ = some (.int .i64 c.fid) ∧ w'.cell? ⟨w.heap.size, 3, none⟩ = some (.string (T c.path)) ∧ w'.cell? ⟨w.heap.size, 4, none⟩ = some (.string (T c.name)) ∧ Below w.heap.size w w') (first | assumption | exact ⟨cc.1, cc.2.1, cc.2.2.1, cc.2.2.2.1, cc.2.2.2.2, q0, q1, q2, q3, q4, HBd.out⟩) (first | (go_at_call 48; with_reducible refine (HSM.out _ (by assumption)).mono ?_; rintro e w' ⟨rfl, hkeep, b1⟩))
        have HBZ := Lib.hid hkeep.2.2.2.2.2.2.2.2.2.2
        have hrow2 := (show w'.heap[w.heap.size]? = some (.cells #[.int .i64 c.dev, .int .i64 c.id, .int .i64 c.fid, .string (T c.path), .string (T c.name)] 23 (0, 0)) from (b1.block _ (row_lt hr1)).trans HR1.out)
        clear hkeep cc q0 q1 q2 q3 q4
        go_wp2_with fail
        go_roundw
        case rel => exact ⟨k + 1, by omega, by go_num, HF, hrow2, HBZ.out⟩
        case measure => simp [intOf]; omega
    · obtain rfl : k = l.length := by omega
      have HF := Lib.hid (HN.out (fun j hj => hn.out j hj (Nat.le_refl _)))
      have HBB := Lib.hid hb
      clear hb
      go_wp2_with fail
      go_ret
      exact ⟨by rw [HF.out]; rfl, HBB.out⟩
set_option maxRecDepth 20000 in
set_option maxHeartbeats 2000000 in
theorem rmat_any (id : Int) (r : Chn) (v : Value) (l : List Mnt) (c : Chn) (w : World) (hv : Mnts w v l) (hl : l.length ≤ 1000000) :
    Calls Try.prog 36 #[nsv id r v, chv c] w fun e w' => e = .returned (.int .i64 (Ns.ix (fun t => Ns.same t.fr c) l)) ∧ Below w.heap.size w w' := by
  obtain ⟨ao, cp, rfl, hc, hn, hcell⟩ := hv
  have HC := Lib.hid hcell
  have HI := Lib.hid (Ns.ix_at (fun t : Mnt => Ns.same t.fr c) l)
  have HN := Lib.hid (Ns.ix_none (fun t : Mnt => Ns.same t.fr c) l)
  have HB0 := Lib.hid (Below.refl w.heap.size w)
  clear hcell hn
  have e1 : (w.alloc (.cells #[.int .i64 id, .int .i64 r.dev, .int .i64 r.id, .int .i64 r.fid, .string (T r.path), .string (T r.name), .slice ao l.length cp] 26)).heap.size = w.heap.size + 1 := by simp
  have hrow := heap_alloc_new (w.alloc (.cells #[.int .i64 id, .int .i64 r.dev, .int .i64 r.id, .int .i64 r.fid, .string (T r.path), .string (T r.name), .slice ao l.length cp] 26)) (.cells #[.int .i64 c.dev, .int .i64 c.id, .int .i64 c.fid, .string (T c.path), .string (T c.name)] 23)
  rw [e1] at hrow
  have HROW := Lib.hid hrow
  clear hrow
  unfold chv nsv
  go_enter Try.func36, Try.ntmps36
  go_wp2_with fail
  go_loopw [9] (fun i wr => ∃ k : Nat, k ≤ l.length ∧ i = .int .i64 (k : Int) ∧ Hid (∀ j (hj : j < k) (hk : k ≤ l.length), ¬ Ns.same (l[j]'(by omega)).fr c = true) ∧ wr.heap[w.heap.size]? = some (.cells #[.int .i64 id, .int .i64 r.dev, .int .i64 r.id, .int .i64 r.fid, .string (T r.path), .string (T r.name), .slice ao l.length cp] 26 (0, 0)) ∧ wr.heap[w.heap.size + 1]? = some (.cells #[.int .i64 c.dev, .int .i64 c.id, .int .i64 c.fid, .string (T c.path), .string (T c.name)] 23 (0, 0)) ∧ Below w.heap.size w wr) (fun i _ => l.length - (intOf i).toNat)
  case atStart => exact ⟨0, by omega, rfl, (fun j hj => by omega), (Lib.alloc_old _ _ _ (by simp)).trans (heap_alloc_new _ _), HROW.out, ((HB0.out.alloc (Nat.le_refl _) _).alloc (by simp) _)⟩
  case round =>
    obtain ⟨k, hk, rfl, hn, hr0, hr1, hb⟩ := hrel
    have q0 : wr.cell? ⟨w.heap.size + 1, 0, none⟩ = some (.int .i64 c.dev) := by rw [cell_of_row _ _ _ _ _ _ hr1]; rfl
    have q1 : wr.cell? ⟨w.heap.size + 1, 1, none⟩ = some (.int .i64 c.id) := by rw [cell_of_row _ _ _ _ _ _ hr1]; rfl
    have q2 : wr.cell? ⟨w.heap.size + 1, 2, none⟩ = some (.int .i64 c.fid) := by rw [cell_of_row _ _ _ _ _ _ hr1]; rfl
    have q3 : wr.cell? ⟨w.heap.size + 1, 3, none⟩ = some (.string (T c.path)) := by rw [cell_of_row _ _ _ _ _ _ hr1]; rfl
    have q4 : wr.cell? ⟨w.heap.size + 1, 4, none⟩ = some (.string (T c.name)) := by rw [cell_of_row _ _ _ _ _ _ hr1]; rfl
    have q6 : wr.cell? ⟨w.heap.size, 6, none⟩ = some (.slice ao l.length cp) := by rw [cell_of_row _ _ _ _ _ _ hr0]; rfl
    by_cases hlt : k < l.length
    · obtain ⟨b, off, rfl, hbl, cc, hrest⟩ := HC.out k hlt
      clear hrest
      replace cc : CCells wr b (off + k * 6) l[k].fr := by
        obtain ⟨z0, z1, z2, z3, z4⟩ := cc
        exact ⟨(hb.cell (p := ⟨b, off + k * 6, none⟩) hbl).trans z0, (hb.cell (p := ⟨b, off + k * 6 + 1, none⟩) hbl).trans z1, (hb.cell (p := ⟨b, off + k * 6 + 2, none⟩) hbl).trans z2, (hb.cell (p := ⟨b, off + k * 6 + 3, none⟩) hbl).trans z3, (hb.cell (p := ⟨b, off + k * 6 + 4, none⟩) hbl).trans z4⟩
      have HBd := Lib.hid (below_drewN hb 1)
      have HBB := Lib.hid hb
      have HR0 := Lib.hid hr0
      have HR1 := Lib.hid hr1
      have HSM := Lib.hid (fun (W : World) (h : W.cell? ⟨b, off + k * 6, none⟩ = some (.int .i64 l[k].fr.dev) ∧ W.cell? ⟨b, off + k * 6 + 1, none⟩ = some (.int .i64 l[k].fr.id) ∧ W.cell? ⟨b, off + k * 6 + 2, none⟩ = some (.int .i64 l[k].fr.fid) ∧ W.cell? ⟨b, off + k * 6 + 3, none⟩ = some (.string (T l[k].fr.path)) ∧ W.cell? ⟨b, off + k * 6 + 4, none⟩ = some (.string (T l[k].fr.name)) ∧ W.cell? ⟨w.heap.size + 1, 0, none⟩ = some (.int .i64 c.dev) ∧ W.cell? ⟨w.heap.size + 1, 1, none⟩ = some (.int .i64 c.id) ∧ W.cell? ⟨w.heap.size + 1, 2, none⟩ = some (.int .i64 c.fid) ∧ W.cell? ⟨w.heap.size + 1, 3, none⟩ = some (.string (T c.path)) ∧ W.cell? ⟨w.heap.size + 1, 4, none⟩ = some (.string (T c.name)) ∧ W.cell? ⟨w.heap.size, 6, none⟩ = some (.slice (some ⟨b, off, none⟩) l.length cp) ∧ Below w.heap.size w W) => (rmsame_any l[k].fr c W).mono fun e w' (h' : e = .returned (.bool (Ns.same l[k].fr c)) ∧ Below W.heap.size W w') => (show e = .returned (.bool (Ns.same l[k].fr c)) ∧ (w'.cell? ⟨b, off + k * 6, none⟩ = some (.int .i64 l[k].fr.dev) ∧ w'.cell? ⟨b, off + k * 6 + 1, none⟩ = some (.int .i64 l[k].fr.id) ∧ w'.cell? ⟨b, off + k * 6 + 2, none⟩ = some (.int .i64 l[k].fr.fid) ∧ w'.cell? ⟨b, off + k * 6 + 3, none⟩ = some (.string (T l[k].fr.path)) ∧ w'.cell? ⟨b, off + k * 6 + 4, none⟩ = some (.string (T l[k].fr.name)) ∧ w'.cell? ⟨w.heap.size + 1, 0, none⟩ = some (.int .i64 c.dev) ∧ w'.cell? ⟨w.heap.size + 1, 1, none⟩ = some (.int .i64 c.id) ∧ w'.cell? ⟨w.heap.size + 1, 2, none⟩ = some (.int .i64 c.fid) ∧ w'.cell? ⟨w.heap.size + 1, 3, none⟩ = some (.string (T c.path)) ∧ w'.cell? ⟨w.heap.size + 1, 4, none⟩ = some (.string (T c.name)) ∧ w'.cell? ⟨w.heap.size, 6, none⟩ = some (.slice (some ⟨b, off, none⟩) l.length cp) ∧ Below w.heap.size w w') ∧ Below W.heap.size W w' from by
        obtain ⟨h0, h1, h2, h3, h4, h5, h6, h7, h8, h9, h10, hbb⟩ := h
        exact ⟨h'.1, ⟨cell_next h0 h'.2, cell_next h1 h'.2, cell_next h2 h'.2, cell_next h3 h'.2, cell_next h4 h'.2, cell_next h5 h'.2, cell_next h6 h'.2, cell_next h7 h'.2, cell_next h8 h'.2, cell_next h9 h'.2, cell_next h10 h'.2, bnext hbb h'.2⟩, h'.2⟩))
      unfold chv at HSM
      have hki : (k : Int) < l.length := by omega
      clear hb
      by_cases he : Ns.same l[k].fr c = true
      · have HF := Lib.hid (HI.out k hlt (fun j hj => hn.out j hj (by omega)) he)
        rw [he] at HSM
        clear he
        go_upto_region 4 with fail
        go_region_held_law (fun w' => w'.cell? ⟨b, off + k * 6, none⟩ = some (.int .i64 l[k].fr.dev) ∧ w'.cell? ⟨b, off + k * 6 + 1, none⟩ = some (.int .i64 l[k].fr.id) ∧ w'.cell? ⟨b, off + k * 6 + 2, none⟩ = some (.int .i64 l[k].fr.fid) ∧ w'.cell? ⟨b, off + k * 6 + 3, none⟩ = some (.string (T l[k].fr.path)) ∧ w'.cell? ⟨b, off + k * 6 + 4, none⟩ = some (.string (T l[k].fr.name)) ∧ w'.cell? ⟨w.heap.size + 1, 0, none⟩ = some (.int .i64 c.dev) ∧ w'.cell? ⟨w.heap.size + 1, 1, none⟩ = some (.int .i64 c.id) ∧ w'.cell? ⟨w.heap.size + 1, 2, none⟩ = some (.int .i64 c.fid) ∧ w'.cell? ⟨w.heap.size + 1, 3, none⟩ = some (.string (T c.path)) ∧ w'.cell? ⟨w.heap.size + 1, 4, none⟩ = some (.string (T c.name)) ∧ w'.cell? ⟨w.heap.size, 6, none⟩ = some (.slice (some ⟨b, off, none⟩) l.length cp) ∧ Below w.heap.size w w') (first | assumption | exact ⟨cc.1, cc.2.1, cc.2.2.1, cc.2.2.2.1, cc.2.2.2.2, q0, q1, q2, q3, q4, q6, HBd.out⟩) (first | (go_at_call 48; with_reducible refine (HSM.out _ (by assumption)).mono ?_; rintro e w' ⟨rfl, hkeep, b1⟩))
        have HBZ := Lib.hid hkeep.2.2.2.2.2.2.2.2.2.2.2
        clear hkeep cc q0 q1 q2 q3 q4
        go_wp2_with fail
        go_ret
        exact ⟨by rw [HF.out]; rfl, HBZ.out⟩
      · have HF : Hid (∀ j (hj : j < k + 1) (hk : k + 1 ≤ l.length), ¬ Ns.same (l[j]'(by omega)).fr c = true) := fun j hj hk' => by
          rcases Nat.lt_or_ge j k with h | h
          · exact hn.out j h (by omega)
          · obtain rfl : j = k := by omega
            exact he
        rw [Bool.eq_false_iff.2 he] at HSM
        clear he
        go_upto_region 4 with fail
        go_region_held_law (fun w' => w'.cell? ⟨b, off + k * 6, none⟩ = some (.int .i64 l[k].fr.dev) ∧ w'.cell? ⟨b, off + k * 6 + 1, none⟩ = some (.int .i64 l[k].fr.id) ∧ w'.cell? ⟨b, off + k * 6 + 2, none⟩ = some (.int .i64 l[k].fr.fid) ∧ w'.cell? ⟨b, off + k * 6 + 3, none⟩ = some (.string (T l[k].fr.path)) ∧ w'.cell? ⟨b, off + k * 6 + 4, none⟩ = some (.string (T l[k].fr.name)) ∧ w'.cell? ⟨w.heap.size + 1, 0, none⟩ = some (.int .i64 c.dev) ∧ w'.cell? ⟨w.heap.size + 1, 1, none⟩ = some (.int .i64 c.id) ∧ w'.cell? ⟨w.heap.size + 1, 2, none⟩ = some (.int .i64 c.fid) ∧ w'.cell? ⟨w.heap.size + 1, 3, none⟩ = some (.string (T c.path)) ∧ w'.cell? ⟨w.heap.size + 1, 4, none⟩ = some (.string (T c.name)) ∧ w'.cell? ⟨w.heap.size, 6, none⟩ = some (.slice (some ⟨b, off, none⟩) l.length cp) ∧ Below w.heap.size w w') (first | assumption | exact ⟨cc.1, cc.2.1, cc.2.2.1, cc.2.2.2.1, cc.2.2.2.2, q0, q1, q2, q3, q4, q6, HBd.out⟩) (first | (go_at_call 48; with_reducible refine (HSM.out _ (by assumption)).mono ?_; rintro e w' ⟨rfl, hkeep, b1⟩))
        have HBZ := Lib.hid hkeep.2.2.2.2.2.2.2.2.2.2.2
        have hrow2 := (show w'.heap[w.heap.size]? = some (.cells #[.int .i64 id, .int .i64 r.dev, .int .i64 r.id, .int .i64 r.fid, .string (T r.path), .string (T r.name), .slice (some ⟨b, off, none⟩) l.length cp] 26 (0, 0)) ∧ w'.heap[w.heap.size + 1]? = some (.cells #[.int .i64 c.dev, .int .i64 c.id, .int .i64 c.fid, .string (T c.path), .string (T c.name)] 23 (0, 0)) from ⟨(b1.block _ (row_lt hr0)).trans HR0.out, (b1.block _ (row_lt hr1)).trans HR1.out⟩)
        clear hkeep cc q0 q1 q2 q3 q4
        go_wp2_with fail
        go_roundw
        case rel => exact ⟨k + 1, by omega, by go_num, HF, hrow2.1, hrow2.2, HBZ.out⟩
        case measure => simp [intOf]; omega
    · obtain rfl : k = l.length := by omega
      have HF := Lib.hid (HN.out (fun j hj => hn.out j hj (Nat.le_refl _)))
      have HBB := Lib.hid hb
      clear hb
      go_wp2_with fail
      go_ret
      exact ⟨by rw [HF.out]; rfl, HBB.out⟩
end Go.Proofs.Ytganenaaglfdnaa
