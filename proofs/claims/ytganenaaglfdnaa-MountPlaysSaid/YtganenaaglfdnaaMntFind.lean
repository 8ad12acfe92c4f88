/- What find and element return. Conditions: the slice holds the given list; at most 10^6 elements. -/
import Derived.Test.YtganenaaglfdnaaMnts
set_option linter.unusedVariables false
set_option linter.unusedSimpArgs false
namespace Go.Proofs.Ytganenaaglfdnaa
open Go.RowKit
theorem mafter1_new {w w1 : World} {A : Obj} (hb : Below (w.alloc A).heap.size (w.alloc A) w1) : w1.heap[w.heap.size]? = some A := (hb.block _ (by simp)).trans (heap_alloc_new _ _)
theorem mafter1 {w w1 : World} {A : Obj} (hb : Below (w.alloc A).heap.size (w.alloc A) w1) : Below w.heap.size w w1 := ((Below.refl _ _).alloc (Nat.le_refl _) _).trans (hb.mono (by simp))
/-- A target as a value. -/
def tgv (t : Tgt) : Value := .agg #[.int .i64 t.ch.dev, .int .i64 t.ch.id, .int .i64 t.ch.fid, .string (T t.ch.path), .string (T t.ch.name), .bool t.cr]
/-- A mount as a value, its union the given slice. -/
def mnv (t : Mnt) (tv : Value) : Value := .agg #[.int .i64 t.fr.dev, .int .i64 t.fr.id, .int .i64 t.fr.fid, .string (T t.fr.path), .string (T t.fr.name), tv]
/-- 'ecls_any': the closure. -/
theorem ecls_any (t : Tgt) (c : Chn) (g : Nat) (w : World) (hg : CCells w g 0 c) :
    Calls Try.prog 56 #[.agg #[.int .i64 t.ch.dev, .int .i64 t.ch.id, .int .i64 t.ch.fid, .string (T t.ch.path), .string (T t.ch.name), .bool t.cr], .pointer (some ⟨g, 0, none⟩)] w fun e w' => e = .returned (.bool (Ns.same t.ch c)) ∧ Below w.heap.size w w' := by
  obtain ⟨g0, g1, g2, g3, g4⟩ := hg
  have hlt : g < w.heap.size := block_lt_of_cell g0
  have hne : g ≠ w.heap.size := by omega
  have HB := Lib.hid (Below.refl w.heap.size w)
  have HC := Lib.hid (fun w => msame_any t.ch c w)
  replace g1 : w.cell? ⟨g, 1, none⟩ = some (.int .i64 c.id) := g1
  replace g2 : w.cell? ⟨g, 2, none⟩ = some (.int .i64 c.fid) := g2
  replace g3 : w.cell? ⟨g, 3, none⟩ = some (.string (T c.path)) := g3
  replace g4 : w.cell? ⟨g, 4, none⟩ = some (.string (T c.name)) := g4
  unfold chv at HC
  go_enter Try.func56, Try.ntmps56
  go_wp2_with fail
  refine (HC.out _).mono ?_; rintro e w1 ⟨rfl, b1⟩
  have HB1 := Lib.hid (bnext (HB.out.alloc (Nat.le_refl _) _) b1)
  clear b1
  go_wp2_with fail
  go_ret
  exact ⟨rfl, HB1.out⟩
/-- 'fcls_any': the closure. -/
theorem fcls_any (t : Mnt) (tv : Value) (c : Chn) (g : Nat) (w : World) (hg : CCells w g 0 c) (htv : ∃ a n k, tv = .slice a n k) :
    Calls Try.prog 54 #[.agg #[.int .i64 t.fr.dev, .int .i64 t.fr.id, .int .i64 t.fr.fid, .string (T t.fr.path), .string (T t.fr.name), tv], .pointer (some ⟨g, 0, none⟩)] w fun e w' => e = .returned (.bool (Ns.same t.fr c)) ∧ Below w.heap.size w w' := by
  obtain ⟨g0, g1, g2, g3, g4⟩ := hg
  have hlt : g < w.heap.size := block_lt_of_cell g0
  have hne : g ≠ w.heap.size := by omega
  have HB := Lib.hid (Below.refl w.heap.size w)
  have HC := Lib.hid (fun w => msame_any t.fr c w)
  replace g1 : w.cell? ⟨g, 1, none⟩ = some (.int .i64 c.id) := g1
  replace g2 : w.cell? ⟨g, 2, none⟩ = some (.int .i64 c.fid) := g2
  replace g3 : w.cell? ⟨g, 3, none⟩ = some (.string (T c.path)) := g3
  replace g4 : w.cell? ⟨g, 4, none⟩ = some (.string (T c.name)) := g4
  unfold chv at HC
  obtain ⟨ta, tn, tc, rfl⟩ := htv
  go_enter Try.func54, Try.ntmps54
  go_wp2_with fail
  refine (HC.out _).mono ?_; rintro e w1 ⟨rfl, b1⟩
  have HB1 := Lib.hid (bnext (HB.out.alloc (Nat.le_refl _) _) b1)
  clear b1
  go_wp2_with fail
  go_ret
  exact ⟨rfl, HB1.out⟩
set_option maxHeartbeats 1000000 in
theorem eifn_any (v : Value) (l : List Tgt) (c : Chn) (g : Nat) (w : World) (hg : CCells w g 0 c) (hv : Tgts w v l) (hl : l.length ≤ 1000000) :
    Calls Try.prog 55 #[v, .func (.func 56) #[] #[.pointer (some ⟨g, 0, none⟩)]] w fun e w' => e = .returned (.int .i64 (Ns.ix (fun t => Ns.same t.ch c) l)) ∧ Below w.heap.size w w' := by
  obtain ⟨ao, cap, rfl, hc, hn, hcell⟩ := hv
  have hlt0 : g < w.heap.size := block_lt_of_cell hg.1
  have HC := Lib.hid hcell
  have HG := Lib.hid hg
  have HI := Lib.hid (Ns.ix_at (fun t : Tgt => Ns.same t.ch c) l)
  have HN := Lib.hid (Ns.ix_none (fun t : Tgt => Ns.same t.ch c) l)
  have HB0 := Lib.hid (Below.refl w.heap.size w)
  clear hcell hn hg
  go_enter Try.func55, Try.ntmps55
  go_wp2_with fail
  go_loopw [8] (fun i wr => ∃ k : Nat, k ≤ l.length ∧ i = .int .i64 (k : Int) ∧ Hid (∀ j (hj : j < k) (hk : k ≤ l.length), ¬ Ns.same (l[j]'(by omega)).ch c = true) ∧ Below w.heap.size w wr) (fun i _ => l.length - (intOf i).toNat)
  case atStart => exact ⟨0, by omega, rfl, (fun j hj => by omega), HB0.out⟩
  case round =>
    obtain ⟨k, hk, rfl, hn, hb⟩ := hrel
    by_cases hlt : k < l.length
    · obtain ⟨b, off, rfl, hbl, cc, c5⟩ := HC.out k hlt
      obtain ⟨d0, d1, d2, d3, d4⟩ := (show CCells wr b (off + k * 6) l[k].ch from by
        obtain ⟨q0, q1, q2, q3, q4⟩ := cc
        exact ⟨(hb.cell (p := ⟨b, off + k * 6, none⟩) hbl).trans q0, (hb.cell (p := ⟨b, off + k * 6 + 1, none⟩) hbl).trans q1, (hb.cell (p := ⟨b, off + k * 6 + 2, none⟩) hbl).trans q2, (hb.cell (p := ⟨b, off + k * 6 + 3, none⟩) hbl).trans q3, (hb.cell (p := ⟨b, off + k * 6 + 4, none⟩) hbl).trans q4⟩)
      have d5 := (hb.cell (p := ⟨b, off + k * 6 + 5, none⟩) hbl).trans c5
      have hgr : CCells wr g 0 c := by
        obtain ⟨q0, q1, q2, q3, q4⟩ := HG.out
        exact ⟨(hb.cell (p := ⟨g, 0, none⟩) hlt0).trans q0, (hb.cell (p := ⟨g, 0 + 1, none⟩) hlt0).trans q1, (hb.cell (p := ⟨g, 0 + 2, none⟩) hlt0).trans q2, (hb.cell (p := ⟨g, 0 + 3, none⟩) hlt0).trans q3, (hb.cell (p := ⟨g, 0 + 4, none⟩) hlt0).trans q4⟩
      have HCL := Lib.hid (ecls_any l[k] c g wr hgr)
      clear cc c5 hgr
      have HBB := Lib.hid hb
      clear hb
      by_cases he : Ns.same l[k].ch c = true
      · have HF := Lib.hid (HI.out k hlt (fun j hj => hn.out j hj (by omega)) he)
        rw [he] at HCL
        clear he
        go_wp2_with fail
        refine HCL.out.mono ?_; rintro e w1 ⟨rfl, h1⟩
        go_wp2_with fail
        go_ret
        exact ⟨by rw [HF.out]; rfl, bnext HBB.out h1⟩
      · have HF : Hid (∀ j (hj : j < k + 1) (hk : k + 1 ≤ l.length), ¬ Ns.same (l[j]'(by omega)).ch c = true) := fun j hj hk' => by
          rcases Nat.lt_or_ge j k with h | h
          · exact hn.out j h (by omega)
          · obtain rfl : j = k := by omega
            exact he
        rw [Bool.eq_false_iff.2 he] at HCL
        clear he
        go_wp2_with fail
        refine HCL.out.mono ?_; rintro e w1 ⟨rfl, h1⟩
        go_wp2_with fail
        go_roundw
        case rel => exact ⟨k + 1, by omega, by go_num, HF, bnext HBB.out h1⟩
        case measure => simp [intOf]; omega
    · obtain rfl : k = l.length := by omega
      have HF := Lib.hid (HN.out (fun j hj => hn.out j hj (Nat.le_refl _)))
      have HBB := Lib.hid hb
      clear hb
      go_wp2_with fail
      go_ret
      exact ⟨by rw [HF.out]; rfl, HBB.out⟩
set_option maxHeartbeats 1000000 in
theorem fifn_any (v : Value) (l : List Mnt) (c : Chn) (g : Nat) (w : World) (hg : CCells w g 0 c) (hv : Mnts w v l) (hl : l.length ≤ 1000000) :
    Calls Try.prog 53 #[v, .func (.func 54) #[] #[.pointer (some ⟨g, 0, none⟩)]] w fun e w' => e = .returned (.int .i64 (Ns.ix (fun t => Ns.same t.fr c) l)) ∧ Below w.heap.size w w' := by
  obtain ⟨ao, cap, rfl, hc, hn, hcell⟩ := hv
  have hlt0 : g < w.heap.size := block_lt_of_cell hg.1
  have HC := Lib.hid hcell
  have HG := Lib.hid hg
  have HI := Lib.hid (Ns.ix_at (fun t : Mnt => Ns.same t.fr c) l)
  have HN := Lib.hid (Ns.ix_none (fun t : Mnt => Ns.same t.fr c) l)
  have HB0 := Lib.hid (Below.refl w.heap.size w)
  clear hcell hn hg
  go_enter Try.func53, Try.ntmps53
  go_wp2_with fail
  go_loopw [8] (fun i wr => ∃ k : Nat, k ≤ l.length ∧ i = .int .i64 (k : Int) ∧ Hid (∀ j (hj : j < k) (hk : k ≤ l.length), ¬ Ns.same (l[j]'(by omega)).fr c = true) ∧ Below w.heap.size w wr) (fun i _ => l.length - (intOf i).toNat)
  case atStart => exact ⟨0, by omega, rfl, (fun j hj => by omega), HB0.out⟩
  case round =>
    obtain ⟨k, hk, rfl, hn, hb⟩ := hrel
    by_cases hlt : k < l.length
    · obtain ⟨b, off, rfl, hbl, cc, tv, c5, ct⟩ := HC.out k hlt
      obtain ⟨ta, tn, tc, rfl⟩ := ct.form
      obtain ⟨d0, d1, d2, d3, d4⟩ := (show CCells wr b (off + k * 6) l[k].fr from by
        obtain ⟨q0, q1, q2, q3, q4⟩ := cc
        exact ⟨(hb.cell (p := ⟨b, off + k * 6, none⟩) hbl).trans q0, (hb.cell (p := ⟨b, off + k * 6 + 1, none⟩) hbl).trans q1, (hb.cell (p := ⟨b, off + k * 6 + 2, none⟩) hbl).trans q2, (hb.cell (p := ⟨b, off + k * 6 + 3, none⟩) hbl).trans q3, (hb.cell (p := ⟨b, off + k * 6 + 4, none⟩) hbl).trans q4⟩)
      have d5 := (hb.cell (p := ⟨b, off + k * 6 + 5, none⟩) hbl).trans c5
      have hgr : CCells wr g 0 c := by
        obtain ⟨q0, q1, q2, q3, q4⟩ := HG.out
        exact ⟨(hb.cell (p := ⟨g, 0, none⟩) hlt0).trans q0, (hb.cell (p := ⟨g, 0 + 1, none⟩) hlt0).trans q1, (hb.cell (p := ⟨g, 0 + 2, none⟩) hlt0).trans q2, (hb.cell (p := ⟨g, 0 + 3, none⟩) hlt0).trans q3, (hb.cell (p := ⟨g, 0 + 4, none⟩) hlt0).trans q4⟩
      have HCL := Lib.hid (fcls_any l[k] (.slice ta tn tc) c g wr hgr ⟨_, _, _, rfl⟩)
      clear cc c5 hgr
      have HBB := Lib.hid hb
      clear hb
      by_cases he : Ns.same l[k].fr c = true
      · have HF := Lib.hid (HI.out k hlt (fun j hj => hn.out j hj (by omega)) he)
        rw [he] at HCL
        clear he
        go_wp2_with fail
        refine HCL.out.mono ?_; rintro e w1 ⟨rfl, h1⟩
        go_wp2_with fail
        go_ret
        exact ⟨by rw [HF.out]; rfl, bnext HBB.out h1⟩
      · have HF : Hid (∀ j (hj : j < k + 1) (hk : k + 1 ≤ l.length), ¬ Ns.same (l[j]'(by omega)).fr c = true) := fun j hj hk' => by
          rcases Nat.lt_or_ge j k with h | h
          · exact hn.out j h (by omega)
          · obtain rfl : j = k := by omega
            exact he
        rw [Bool.eq_false_iff.2 he] at HCL
        clear he
        go_wp2_with fail
        refine HCL.out.mono ?_; rintro e w1 ⟨rfl, h1⟩
        go_wp2_with fail
        go_roundw
        case rel => exact ⟨k + 1, by omega, by go_num, HF, bnext HBB.out h1⟩
        case measure => simp [intOf]; omega
    · obtain rfl : k = l.length := by omega
      have HF := Lib.hid (HN.out (fun j hj => hn.out j hj (Nat.le_refl _)))
      have HBB := Lib.hid hb
      clear hb
      go_wp2_with fail
      go_ret
      exact ⟨by rw [HF.out]; rfl, HBB.out⟩

theorem element_any (v : Value) (l : List Tgt) (c : Chn) (w : World) (hv : Tgts w v l) (hl : l.length ≤ 1000000) :
    Calls Try.prog 34 #[v, chv c] w fun e w' => e = .returned (.int .i64 (Ns.elem l c)) ∧ Below w.heap.size w w' := by
  obtain ⟨ao, n, cp, rfl⟩ := hv.form
  have HC : Hid (CCells (w.alloc (.cells #[.int .i64 c.dev, .int .i64 c.id, .int .i64 c.fid, .string (T c.path), .string (T c.name)] 23)) w.heap.size 0 c) := by
    have hr := heap_alloc_new w (.cells #[.int .i64 c.dev, .int .i64 c.id, .int .i64 c.fid, .string (T c.path), .string (T c.name)] 23)
    refine ⟨?_, ?_, ?_, ?_, ?_⟩ <;> (rw [cell_of_row _ _ _ _ _ _ hr]; rfl)
  have HV := Lib.hid (eifn_any _ l c w.heap.size _ HC.out (hv.below ((Below.refl _ _).alloc (Nat.le_refl _) _)) hl)
  unfold chv
  clear hv
  go_enter Try.func34, Try.ntmps34
  go_wp2_with fail
  refine HV.out.mono ?_; rintro e w1 ⟨rfl, b1⟩
  have HB := Lib.hid (mafter1 b1)
  clear b1
  go_wp2_with fail
  go_ret
  exact ⟨rfl, HB.out⟩
theorem find_any (id : Int) (r : Chn) (v : Value) (l : List Mnt) (c : Chn) (w : World) (hv : Mnts w v l) (hl : l.length ≤ 1000000) :
    Calls Try.prog 33 #[nsv id r v, chv c] w fun e w' => e = .returned (.int .i64 (Ns.find l c)) ∧ Below w.heap.size w w' := by
  obtain ⟨ao, n, cp, rfl⟩ := hv.form
  have e1 : (w.alloc (.cells #[.int .i64 id, .int .i64 r.dev, .int .i64 r.id, .int .i64 r.fid, .string (T r.path), .string (T r.name), .slice ao n cp] 26)).heap.size = w.heap.size + 1 := by simp
  have HC : Hid (CCells ((w.alloc (.cells #[.int .i64 id, .int .i64 r.dev, .int .i64 r.id, .int .i64 r.fid, .string (T r.path), .string (T r.name), .slice ao n cp] 26)).alloc (.cells #[.int .i64 c.dev, .int .i64 c.id, .int .i64 c.fid, .string (T c.path), .string (T c.name)] 23)) (w.heap.size + 1) 0 c) := by
    have hr := heap_alloc_new (w.alloc (.cells #[.int .i64 id, .int .i64 r.dev, .int .i64 r.id, .int .i64 r.fid, .string (T r.path), .string (T r.name), .slice ao n cp] 26)) (.cells #[.int .i64 c.dev, .int .i64 c.id, .int .i64 c.fid, .string (T c.path), .string (T c.name)] 23)
    rw [e1] at hr
    refine ⟨?_, ?_, ?_, ?_, ?_⟩ <;> (rw [cell_of_row _ _ _ _ _ _ hr]; rfl)
  have HV := Lib.hid (fifn_any _ l c (w.heap.size + 1) _ HC.out (hv.below (((Below.refl _ _).alloc (Nat.le_refl _) _).alloc (by simp) _)) hl)
  unfold chv nsv
  clear hv
  go_enter Try.func33, Try.ntmps33
  go_wp2_with fail
  refine HV.out.mono ?_; rintro e w1 ⟨rfl, b1⟩
  have HB : Hid (Below w.heap.size w w1) := (((Below.refl w.heap.size w).alloc (Nat.le_refl _) _).alloc (by simp) _).trans (b1.mono (by simp; omega))
  clear b1
  go_wp2_with fail
  go_ret
  exact ⟨rfl, HB.out⟩
end Go.Proofs.Ytganenaaglfdnaa
