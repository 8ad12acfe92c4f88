/- What the reference's Right returns: Ns.right. Conditions: the slice holds the given mounts; at most 10^6 of them, each of at most 10^6 targets. -/
import Derived.Test.YtganenaaglfdnaaMntRight
import Derived.Deep.RegionLaw
import Derived.Test.YtganenaaglfdnaaSkips
set_option linter.unusedVariables false
set_option linter.unusedSimpArgs false
namespace Go.Proofs.Ytganenaaglfdnaa
open Go.RowKit
set_option maxRecDepth 20000 in
set_option maxHeartbeats 4000000 in
theorem rmright_any (id : Int) (r : Chn) (v : Value) (ms : List Mnt) (w : World) (hv : Mnts w v ms) (hl : ms.length ≤ 1000000) (hu : ∀ m ∈ ms, m.to.length ≤ 1000000) :
    Calls Try.prog 13 #[nsv id r v] w fun e w' => e = .returned (.bool (Ns.right id r ms)) ∧ Below w.heap.size w w' := by
  obtain ⟨ao, n, cp, rfl⟩ := hv.form
  obtain ⟨rfl, hat⟩ := hv.at
  have HB := Lib.hid (Below.refl w.heap.size w)
  have HM := Lib.hid hat
  have HV := Lib.hid hv
  have HU := Lib.hid hu
  have HVR := Lib.hid (fun W => rmvalid_any r W)
  have HFI := Lib.hid (fun (c : Chn) (W : World) (h : Below w.heap.size w W) => rmat_any id r (.slice ao ms.length cp) ms c W (hv.below h) hl)
  have HVA := Lib.hid (fun (c : Chn) (W : World) => rmvalid_any c W)
  unfold chv nsv at *
  clear hv hat hu
  rcases Int.lt_or_le id 0 with hi | hi
  · have HF := Lib.hid (Ns.right_no (id := id) (r := r) (ms := ms) (fun h => by have := h.1; omega))
    go_enter Try.func13, Try.ntmps13
    go_wp2_with fail
    go_ret
    exact ⟨by rw [HF.out]; rfl, HB.out.alloc (Nat.le_refl _) _⟩
  rcases Int.lt_or_le 9007199254740991 id with hi2 | hi2
  · have HF := Lib.hid (Ns.right_no (id := id) (r := r) (ms := ms) (fun h => by have := h.2.1; omega))
    go_enter Try.func13, Try.ntmps13
    go_wp2_with fail
    go_ret
    exact ⟨by rw [HF.out]; rfl, HB.out.alloc (Nat.le_refl _) _⟩
  go_enter Try.func13, Try.ntmps13
  go_wp2_with fail
  refine (HVR.out _).mono ?_; rintro e w1 ⟨rfl, b1⟩
  have hr1 := mafter1_new b1
  have HB1 := Lib.hid (mafter1 b1)
  clear b1
  have a0 : w1.cell? ⟨w.heap.size, 0, none⟩ = some (.int .i64 id) := by rw [cell_of_row _ _ _ _ _ _ hr1]; rfl
  have a1 : w1.cell? ⟨w.heap.size, 1, none⟩ = some (.int .i64 r.dev) := by rw [cell_of_row _ _ _ _ _ _ hr1]; rfl
  have a2 : w1.cell? ⟨w.heap.size, 2, none⟩ = some (.int .i64 r.id) := by rw [cell_of_row _ _ _ _ _ _ hr1]; rfl
  have a3 : w1.cell? ⟨w.heap.size, 3, none⟩ = some (.int .i64 r.fid) := by rw [cell_of_row _ _ _ _ _ _ hr1]; rfl
  have a4 : w1.cell? ⟨w.heap.size, 4, none⟩ = some (.string (T r.path)) := by rw [cell_of_row _ _ _ _ _ _ hr1]; rfl
  have a5 : w1.cell? ⟨w.heap.size, 5, none⟩ = some (.string (T r.name)) := by rw [cell_of_row _ _ _ _ _ _ hr1]; rfl
  have a6 : w1.cell? ⟨w.heap.size, 6, none⟩ = some (.slice ao ms.length cp) := by rw [cell_of_row _ _ _ _ _ _ hr1]; rfl
  have HR1 := Lib.hid hr1
  clear hr1
  cases hvr : Ns.valid r
  · have HF := Lib.hid (Ns.right_no (id := id) (r := r) (ms := ms) (fun h => Ns.valid_no hvr h.2.2.1))
    go_wp2_with fail
    go_ret
    exact ⟨by rw [HF.out]; rfl, HB1.out⟩
  rcases Nat.lt_or_ge 64 ms.length with h64 | h64
  · have HF := Lib.hid (Ns.right_no (id := id) (r := r) (ms := ms) (fun h => by have := h.2.2.2.1; omega))
    have hi64 : (64 : Int) < ms.length := by omega
    go_wp2_with fail
    go_ret
    exact ⟨by rw [HF.out]; rfl, HB1.out⟩
  have hi64 : (ms.length : Int) ≤ 64 := by omega
  have HOK := Lib.hid (fun h : ∀ i (h : i < ms.length), Ns.okM ms i ms[i] => Ns.right_yes (id := id) (r := r) (ms := ms) ⟨hi, hi2, Ns.valid_yes hvr, h64, h⟩)
  go_wp2_with fail
  go_loopw [29] (fun i wr => ∃ k : Nat, k ≤ ms.length ∧ i = .int .i64 (k : Int) ∧ Hid (∀ j (hj : j < k) (hk : k ≤ ms.length), Ns.okM ms j (ms[j]'(by omega))) ∧ Hid (wr.heap[w.heap.size]? = some (.cells #[.int .i64 id, .int .i64 r.dev, .int .i64 r.id, .int .i64 r.fid, .string (T r.path), .string (T r.name), .slice ao ms.length cp] 26 (0, 0))) ∧ Hid (Below w.heap.size w wr)) (fun i _ => ms.length - (intOf i).toNat)
  case atStart => exact ⟨0, by omega, rfl, (fun j hj => by omega), HR1.out, HB1.out⟩
  case round =>
    obtain ⟨k, hk, rfl, hn, HRW, HBB⟩ := hrel
    clear a0 a1 a2 a3 a4 a5 a6
    have z6 : wr.cell? ⟨w.heap.size, 6, none⟩ = some (.slice ao ms.length cp) := by rw [cell_of_row _ _ _ _ _ _ HRW.out]; rfl
    by_cases hlt : k < ms.length
    · obtain ⟨b, off, rfl, hbl, cc, tv, c5, ct⟩ := HM.out k hlt
      obtain ⟨ta, tn, tc, rfl⟩ := ct.form
      obtain ⟨rfl, hta⟩ := ct.at
      obtain ⟨d0, d1, d2, d3, d4⟩ := cc.below (w' := wr) ⟨HBB.out.os, HBB.out.tape, HBB.out.output, HBB.out.size, HBB.out.block⟩ hbl
      have d5 := (HBB.out.cell (p := ⟨b, off + k * 6 + 5, none⟩) hbl).trans c5
      have HCT := Lib.hid ct
      have HTA := Lib.hid hta
      have HTL := Lib.hid (HU.out ms[k] (List.getElem_mem hlt))
      have HE := Lib.hid (Ns.not_at (id := id) (r := r) hlt)
      have HFS := Lib.hid (Ns.find_self ms k hlt)
      have hki : (k : Int) < ms.length := by omega
      clear cc c5 ct hta
      go_wp2_with fail
      with_reducible refine (HVA.out _ _).mono ?_; rintro e w2 ⟨rfl, b2⟩
      have hm2 := mafter1_new b2
      have HB2 := Lib.hid (bnext HBB.out (mafter1 b2))
      have hn2 := ((mafter1 b2).block _ (row_lt HRW.out)).trans HRW.out
      have e0 : w2.cell? ⟨wr.heap.size, 0, none⟩ = some (.int .i64 ms[k].fr.dev) := by rw [cell_of_row _ _ _ _ _ _ hm2]; rfl
      have e1 : w2.cell? ⟨wr.heap.size, 1, none⟩ = some (.int .i64 ms[k].fr.id) := by rw [cell_of_row _ _ _ _ _ _ hm2]; rfl
      have e2 : w2.cell? ⟨wr.heap.size, 2, none⟩ = some (.int .i64 ms[k].fr.fid) := by rw [cell_of_row _ _ _ _ _ _ hm2]; rfl
      have e3 : w2.cell? ⟨wr.heap.size, 3, none⟩ = some (.string (T ms[k].fr.path)) := by rw [cell_of_row _ _ _ _ _ _ hm2]; rfl
      have e4 : w2.cell? ⟨wr.heap.size, 4, none⟩ = some (.string (T ms[k].fr.name)) := by rw [cell_of_row _ _ _ _ _ _ hm2]; rfl
      have e5 : w2.cell? ⟨wr.heap.size, 5, none⟩ = some (.slice ta ms[k].to.length tc) := by rw [cell_of_row _ _ _ _ _ _ hm2]; rfl
      have a0 : w2.cell? ⟨w.heap.size, 0, none⟩ = some (.int .i64 id) := by rw [cell_of_row _ _ _ _ _ _ hn2]; rfl
      have a1 : w2.cell? ⟨w.heap.size, 1, none⟩ = some (.int .i64 r.dev) := by rw [cell_of_row _ _ _ _ _ _ hn2]; rfl
      have a2 : w2.cell? ⟨w.heap.size, 2, none⟩ = some (.int .i64 r.id) := by rw [cell_of_row _ _ _ _ _ _ hn2]; rfl
      have a3 : w2.cell? ⟨w.heap.size, 3, none⟩ = some (.int .i64 r.fid) := by rw [cell_of_row _ _ _ _ _ _ hn2]; rfl
      have a4 : w2.cell? ⟨w.heap.size, 4, none⟩ = some (.string (T r.path)) := by rw [cell_of_row _ _ _ _ _ _ hn2]; rfl
      have a5 : w2.cell? ⟨w.heap.size, 5, none⟩ = some (.string (T r.name)) := by rw [cell_of_row _ _ _ _ _ _ hn2]; rfl
      have a6 : w2.cell? ⟨w.heap.size, 6, none⟩ = some (.slice (some ⟨b, off, none⟩) ms.length cp) := by rw [cell_of_row _ _ _ _ _ _ hn2]; rfl
      have HM2 := Lib.hid hm2
      have HN2 := Lib.hid hn2
      clear b2 hm2 hn2 d0 d1 d2 d3 d4 d5 z6
      cases hvf : Ns.valid ms[k].fr
      · have HF := Lib.hid (HE.out (fun h => Ns.valid_no hvf h.1))
        go_wp2_with fail
        go_ret
        exact ⟨by rw [HF.out]; rfl, HB2.out⟩
      go_wp2_with fail
      with_reducible refine (HFI.out _ _ HB2.out).mono ?_; rintro e w3 ⟨rfl, b3⟩
      have hm3 := (b3.block _ (row_lt HM2.out)).trans HM2.out
      have hn3 := (b3.block _ (row_lt HN2.out)).trans HN2.out
      have HB3 := Lib.hid (bnext HB2.out b3)
      clear b3 e0 e1 e2 e3 e4 e5 a0 a1 a2 a3 a4 a5 a6
      have e0 : w3.cell? ⟨wr.heap.size, 0, none⟩ = some (.int .i64 ms[k].fr.dev) := by rw [cell_of_row _ _ _ _ _ _ hm3]; rfl
      have e1 : w3.cell? ⟨wr.heap.size, 1, none⟩ = some (.int .i64 ms[k].fr.id) := by rw [cell_of_row _ _ _ _ _ _ hm3]; rfl
      have e2 : w3.cell? ⟨wr.heap.size, 2, none⟩ = some (.int .i64 ms[k].fr.fid) := by rw [cell_of_row _ _ _ _ _ _ hm3]; rfl
      have e3 : w3.cell? ⟨wr.heap.size, 3, none⟩ = some (.string (T ms[k].fr.path)) := by rw [cell_of_row _ _ _ _ _ _ hm3]; rfl
      have e4 : w3.cell? ⟨wr.heap.size, 4, none⟩ = some (.string (T ms[k].fr.name)) := by rw [cell_of_row _ _ _ _ _ _ hm3]; rfl
      have e5 : w3.cell? ⟨wr.heap.size, 5, none⟩ = some (.slice ta ms[k].to.length tc) := by rw [cell_of_row _ _ _ _ _ _ hm3]; rfl
      have HM3 := Lib.hid hm3
      have HN3 := Lib.hid hn3
      clear hm3 hn3
      by_cases hfk : ¬ Ns.find ms ms[k].fr = k
      · have HF := Lib.hid (HE.out (fun h => hfk h.2.1))
        have hfb : ¬ Ns.ix (fun t : Mnt => Ns.same t.fr ms[k].fr) ms = (k : Int) := hfk
        clear hfk
        generalize Ns.ix (fun t : Mnt => Ns.same t.fr ms[k].fr) ms = FI at *
        go_wp2_with fail
        go_ret
        exact ⟨by rw [HF.out]; rfl, HB3.out⟩
      have hfk2 : Ns.find ms ms[k].fr = k := by omega
      have HFI2 := Lib.hid hfk2
      have hfk3 : Ns.ix (fun t : Mnt => Ns.same t.fr ms[k].fr) ms = k := hfk2
      have hfb : (Ns.ix (fun t : Mnt => Ns.same t.fr ms[k].fr) ms != (k : Int)) = false := by rw [show Ns.ix (fun t : Mnt => Ns.same t.fr ms[k].fr) ms = k from hfk2]; simp
      clear hfk hfk2 HFS hfk3
      generalize Ns.ix (fun t : Mnt => Ns.same t.fr ms[k].fr) ms = FI at *
      rcases Nat.lt_or_ge ms[k].to.length 1 with hu1 | hu1
      · have HF := Lib.hid (HE.out (fun h => by have := h.2.2.1; omega))
        have hui : (ms[k].to.length : Int) < 1 := by omega
        go_wp2_with fail
        go_ret
        exact ⟨by rw [HF.out]; rfl, HB3.out⟩
      have hui : (1 : Int) ≤ ms[k].to.length := by omega
      rcases Nat.lt_or_ge 16 ms[k].to.length with hu2 | hu2
      · have HF := Lib.hid (HE.out (fun h => by have := h.2.2.2.1; omega))
        have hui2 : (16 : Int) < ms[k].to.length := by omega
        go_wp2_with fail
        go_ret
        exact ⟨by rw [HF.out]; rfl, HB3.out⟩
      have hui2 : (ms[k].to.length : Int) ≤ 16 := by omega
      generalize wr.heap.size = gm at *
      go_wp2_with fail
      go_loopw [64] (fun i wr2 => ∃ q : Nat, q ≤ ms[k].to.length ∧ i = .int .i64 (q : Int) ∧ Hid (∀ j (hj : j < q) (hq : q ≤ ms[k].to.length), Ns.ok (ms[k].to[j]'(by omega)).ch ∧ Ns.elem ms[k].to (ms[k].to[j]'(by omega)).ch = j) ∧ Hid (wr2.heap[w.heap.size]? = some (.cells #[.int .i64 id, .int .i64 r.dev, .int .i64 r.id, .int .i64 r.fid, .string (T r.path), .string (T r.name), .slice (some ⟨b, off, none⟩) ms.length cp] 26 (0, 0))) ∧ Hid (wr2.heap[gm]? = some (.cells #[.int .i64 ms[k].fr.dev, .int .i64 ms[k].fr.id, .int .i64 ms[k].fr.fid, .string (T ms[k].fr.path), .string (T ms[k].fr.name), .slice ta ms[k].to.length tc] 55 (0, 0))) ∧ Hid (Below w.heap.size w wr2)) (fun i _ => ms[k].to.length - (intOf i).toNat)
      case atStart => exact ⟨0, by omega, rfl, (fun j hj => by omega), HN3.out, HM3.out, HB3.out⟩
      case round =>
        obtain ⟨q, hq, rfl, hnq, HNW, HMW, HBW⟩ := hrel
        clear e0 e1 e2 e3 e4 e5
        by_cases hltq : q < ms[k].to.length
        · obtain ⟨b2, off2, rfl, hb2, cc2, cr2⟩ := HTA.out q hltq
          obtain ⟨d0, d1, d2, d3, d4⟩ := cc2.below (w' := wr) ⟨HBW.out.os, HBW.out.tape, HBW.out.output, HBW.out.size, HBW.out.block⟩ hb2
          have d5 := (HBW.out.cell (p := ⟨b2, off2 + q * 6 + 5, none⟩) hb2).trans cr2
          have e5 : wr.cell? ⟨gm, 5, none⟩ = some (.slice (some ⟨b2, off2, none⟩) ms[k].to.length tc) := by rw [cell_of_row _ _ _ _ _ _ HMW.out]; rfl
          have HBWd := Lib.hid (below_drewN HBW.out 1)
          have HVT := Lib.hid (fun (W : World) (h : W.cell? ⟨gm, 5, none⟩ = some (.slice (some ⟨b2, off2, none⟩) ms[k].to.length tc) ∧ W.cell? ⟨b2, off2 + q * 6, none⟩ = some (.int .i64 ms[k].to[q].ch.dev) ∧ W.cell? ⟨b2, off2 + q * 6 + 1, none⟩ = some (.int .i64 ms[k].to[q].ch.id) ∧ W.cell? ⟨b2, off2 + q * 6 + 2, none⟩ = some (.int .i64 ms[k].to[q].ch.fid) ∧ W.cell? ⟨b2, off2 + q * 6 + 3, none⟩ = some (.string (T ms[k].to[q].ch.path)) ∧ W.cell? ⟨b2, off2 + q * 6 + 4, none⟩ = some (.string (T ms[k].to[q].ch.name)) ∧ W.heap[w.heap.size]? = some (.cells #[.int .i64 id, .int .i64 r.dev, .int .i64 r.id, .int .i64 r.fid, .string (T r.path), .string (T r.name), .slice (some ⟨b, off, none⟩) ms.length cp] 26 (0, 0)) ∧ W.heap[gm]? = some (.cells #[.int .i64 ms[k].fr.dev, .int .i64 ms[k].fr.id, .int .i64 ms[k].fr.fid, .string (T ms[k].fr.path), .string (T ms[k].fr.name), .slice (some ⟨b2, off2, none⟩) ms[k].to.length tc] 55 (0, 0)) ∧ Below w.heap.size w W) => (rmvalid_any ms[k].to[q].ch W).mono fun e w' (h' : e = .returned (.bool (Ns.valid ms[k].to[q].ch)) ∧ Below W.heap.size W w') => (show e = .returned (.bool (Ns.valid ms[k].to[q].ch)) ∧ (w'.cell? ⟨gm, 5, none⟩ = some (.slice (some ⟨b2, off2, none⟩) ms[k].to.length tc) ∧ w'.cell? ⟨b2, off2 + q * 6, none⟩ = some (.int .i64 ms[k].to[q].ch.dev) ∧ w'.cell? ⟨b2, off2 + q * 6 + 1, none⟩ = some (.int .i64 ms[k].to[q].ch.id) ∧ w'.cell? ⟨b2, off2 + q * 6 + 2, none⟩ = some (.int .i64 ms[k].to[q].ch.fid) ∧ w'.cell? ⟨b2, off2 + q * 6 + 3, none⟩ = some (.string (T ms[k].to[q].ch.path)) ∧ w'.cell? ⟨b2, off2 + q * 6 + 4, none⟩ = some (.string (T ms[k].to[q].ch.name)) ∧ w'.heap[w.heap.size]? = some (.cells #[.int .i64 id, .int .i64 r.dev, .int .i64 r.id, .int .i64 r.fid, .string (T r.path), .string (T r.name), .slice (some ⟨b, off, none⟩) ms.length cp] 26 (0, 0)) ∧ w'.heap[gm]? = some (.cells #[.int .i64 ms[k].fr.dev, .int .i64 ms[k].fr.id, .int .i64 ms[k].fr.fid, .string (T ms[k].fr.path), .string (T ms[k].fr.name), .slice (some ⟨b2, off2, none⟩) ms[k].to.length tc] 55 (0, 0)) ∧ Below w.heap.size w w') from by
            obtain ⟨h0, h1, h2, h3, h4, h5, h6, h7, h8⟩ := h
            exact ⟨h'.1, cell_next h0 h'.2, cell_next h1 h'.2, cell_next h2 h'.2, cell_next h3 h'.2, cell_next h4 h'.2, cell_next h5 h'.2, (h'.2.block _ (row_lt h6)).trans h6, (h'.2.block _ (row_lt h7)).trans h7, bnext h8 h'.2⟩))
          have HIN := Lib.hid (fun (W : World) (h : W.cell? ⟨gm, 5, none⟩ = some (.slice (some ⟨b2, off2, none⟩) ms[k].to.length tc) ∧ W.cell? ⟨b2, off2 + q * 6, none⟩ = some (.int .i64 ms[k].to[q].ch.dev) ∧ W.cell? ⟨b2, off2 + q * 6 + 1, none⟩ = some (.int .i64 ms[k].to[q].ch.id) ∧ W.cell? ⟨b2, off2 + q * 6 + 2, none⟩ = some (.int .i64 ms[k].to[q].ch.fid) ∧ W.cell? ⟨b2, off2 + q * 6 + 3, none⟩ = some (.string (T ms[k].to[q].ch.path)) ∧ W.cell? ⟨b2, off2 + q * 6 + 4, none⟩ = some (.string (T ms[k].to[q].ch.name)) ∧ W.heap[w.heap.size]? = some (.cells #[.int .i64 id, .int .i64 r.dev, .int .i64 r.id, .int .i64 r.fid, .string (T r.path), .string (T r.name), .slice (some ⟨b, off, none⟩) ms.length cp] 26 (0, 0)) ∧ W.heap[gm]? = some (.cells #[.int .i64 ms[k].fr.dev, .int .i64 ms[k].fr.id, .int .i64 ms[k].fr.fid, .string (T ms[k].fr.path), .string (T ms[k].fr.name), .slice (some ⟨b2, off2, none⟩) ms[k].to.length tc] 55 (0, 0)) ∧ Below w.heap.size w W) => (rin_any (.slice (some ⟨b2, off2, none⟩) ms[k].to.length tc) ms[k].to ms[k].to[q].ch W (HCT.out.below h.2.2.2.2.2.2.2.2) HTL.out).mono fun e w' (h' : e = .returned (.int .i64 (Ns.ix (fun t => Ns.same t.ch ms[k].to[q].ch) ms[k].to)) ∧ Below W.heap.size W w') => (show e = .returned (.int .i64 (Ns.ix (fun t => Ns.same t.ch ms[k].to[q].ch) ms[k].to)) ∧ (w'.cell? ⟨gm, 5, none⟩ = some (.slice (some ⟨b2, off2, none⟩) ms[k].to.length tc) ∧ w'.cell? ⟨b2, off2 + q * 6, none⟩ = some (.int .i64 ms[k].to[q].ch.dev) ∧ w'.cell? ⟨b2, off2 + q * 6 + 1, none⟩ = some (.int .i64 ms[k].to[q].ch.id) ∧ w'.cell? ⟨b2, off2 + q * 6 + 2, none⟩ = some (.int .i64 ms[k].to[q].ch.fid) ∧ w'.cell? ⟨b2, off2 + q * 6 + 3, none⟩ = some (.string (T ms[k].to[q].ch.path)) ∧ w'.cell? ⟨b2, off2 + q * 6 + 4, none⟩ = some (.string (T ms[k].to[q].ch.name)) ∧ w'.heap[w.heap.size]? = some (.cells #[.int .i64 id, .int .i64 r.dev, .int .i64 r.id, .int .i64 r.fid, .string (T r.path), .string (T r.name), .slice (some ⟨b, off, none⟩) ms.length cp] 26 (0, 0)) ∧ w'.heap[gm]? = some (.cells #[.int .i64 ms[k].fr.dev, .int .i64 ms[k].fr.id, .int .i64 ms[k].fr.fid, .string (T ms[k].fr.path), .string (T ms[k].fr.name), .slice (some ⟨b2, off2, none⟩) ms[k].to.length tc] 55 (0, 0)) ∧ Below w.heap.size w w') from by
            obtain ⟨h0, h1, h2, h3, h4, h5, h6, h7, h8⟩ := h
            exact ⟨h'.1, cell_next h0 h'.2, cell_next h1 h'.2, cell_next h2 h'.2, cell_next h3 h'.2, cell_next h4 h'.2, cell_next h5 h'.2, (h'.2.block _ (row_lt h6)).trans h6, (h'.2.block _ (row_lt h7)).trans h7, bnext h8 h'.2⟩))
          have hqi : (q : Int) < ms[k].to.length := by omega
          unfold chv at HVT HIN
          clear cc2 cr2
          cases hvt : Ns.valid ms[k].to[q].ch
          · have HF := Lib.hid (HE.out (fun h => Ns.valid_no hvt (h.2.2.2.2 q hltq).1))
            rw [hvt] at HVT
            go_upto_region 12 with fail
            refine wp_region_held_drew (S := (fun w' => w'.cell? ⟨gm, 5, none⟩ = some (.slice (some ⟨b2, off2, none⟩) ms[k].to.length tc) ∧ w'.cell? ⟨b2, off2 + q * 6, none⟩ = some (.int .i64 ms[k].to[q].ch.dev) ∧ w'.cell? ⟨b2, off2 + q * 6 + 1, none⟩ = some (.int .i64 ms[k].to[q].ch.id) ∧ w'.cell? ⟨b2, off2 + q * 6 + 2, none⟩ = some (.int .i64 ms[k].to[q].ch.fid) ∧ w'.cell? ⟨b2, off2 + q * 6 + 3, none⟩ = some (.string (T ms[k].to[q].ch.path)) ∧ w'.cell? ⟨b2, off2 + q * 6 + 4, none⟩ = some (.string (T ms[k].to[q].ch.name)) ∧ w'.heap[w.heap.size]? = some (.cells #[.int .i64 id, .int .i64 r.dev, .int .i64 r.id, .int .i64 r.fid, .string (T r.path), .string (T r.name), .slice (some ⟨b, off, none⟩) ms.length cp] 26 (0, 0)) ∧ w'.heap[gm]? = some (.cells #[.int .i64 ms[k].fr.dev, .int .i64 ms[k].fr.id, .int .i64 ms[k].fr.fid, .string (T ms[k].fr.path), .string (T ms[k].fr.name), .slice (some ⟨b2, off2, none⟩) ms[k].to.length tc] 55 (0, 0)) ∧ Below w.heap.size w w')) (by kernel_rfl) ⟨e5, d0, d1, d2, d3, d4, HNW.out, HMW.out, HBWd.out⟩ (fun hHeld => ?_)
            refine wpAnyH_takeD (i := 0) (d := 67) (v := ?v0) rfl rfl (by kernel_rfl) (by kernel_rfl) (by kernel_rfl) (fun _ _ _ h => h) (Or.inl ⟨by rfl, ?y0⟩) (by assumption) ?r0
            case y0 => (intro w hSw; (try dsimp only at hSw); go_simp <;> with_reducible rfl)
            try simp only [Act.put, List.setIfInBounds_toArray, List.set_cons_zero, List.set_cons_succ]
            refine wpAnyH_takeD (i := 1) (d := 68) (v := ?v1) rfl rfl (by kernel_rfl) (by kernel_rfl) (by kernel_rfl) (fun _ _ _ h => h) (Or.inl ⟨by rfl, ?y1⟩) (by assumption) ?r1
            case y1 => (intro w hSw; (try dsimp only at hSw); go_simp <;> with_reducible rfl)
            try simp only [Act.put, List.setIfInBounds_toArray, List.set_cons_zero, List.set_cons_succ]
            refine wpAnyH_takeD (i := 2) (d := 69) (v := ?v2) rfl rfl (by kernel_rfl) (by kernel_rfl) (by kernel_rfl) (fun _ _ _ h => h) (Or.inl ⟨by rfl, ?y2⟩) (by assumption) ?r2
            case y2 => (intro w hSw; (try dsimp only at hSw); go_simp <;> with_reducible rfl)
            try simp only [Act.put, List.setIfInBounds_toArray, List.set_cons_zero, List.set_cons_succ]
            refine wpAnyH_takeD (i := 3) (d := 70) (v := ?v3) rfl rfl (by kernel_rfl) (by kernel_rfl) (by kernel_rfl) (fun _ _ _ h => h) (Or.inl ⟨by rfl, ?y3⟩) (by assumption) ?r3
            case y3 => (intro w hSw; (try dsimp only at hSw); go_simp <;> with_reducible rfl)
            try simp only [Act.put, List.setIfInBounds_toArray, List.set_cons_zero, List.set_cons_succ]
            refine wpAnyH_takeD (i := 4) (d := 71) (v := ?v4) rfl rfl (by kernel_rfl) (by kernel_rfl) (by kernel_rfl) (fun _ _ _ h => h) (Or.inl ⟨by rfl, ?y4⟩) (by assumption) ?r4
            case y4 => (intro w hSw; (try dsimp only at hSw); go_simp <;> with_reducible rfl)
            try simp only [Act.put, List.setIfInBounds_toArray, List.set_cons_zero, List.set_cons_succ]
            refine wpAnyH_takeD (i := 5) (d := 72) (v := ?v5) rfl rfl (by kernel_rfl) (by kernel_rfl) (by kernel_rfl) (fun _ _ _ h => h) (Or.inl ⟨by rfl, ?y5⟩) (by assumption) ?r5
            case y5 => (intro w hSw; (try dsimp only at hSw); go_simp <;> with_reducible rfl)
            try simp only [Act.put, List.setIfInBounds_toArray, List.set_cons_zero, List.set_cons_succ]
            refine wpAnyH_ready (rs := [6]) (by kernel_rfl) (by simp) ?_
            refine AllReadyH.cons rfl (fun K hK => ?_) AllReadyH.nil
            go_simp
            go_wp2_with (go_at_call 35; refine (HVT.out wr.drew ⟨e5, d0, d1, d2, d3, d4, HNW.out, HMW.out, HBWd.out⟩).mono ?_; rintro e w' ⟨rfl, hkeep⟩)
            refine hK.out _ _ hkeep (fun hHeld => ?_)
            clear hK K
            refine wpAnyH_takeD (i := 7) (d := 74) (v := ?v7) rfl rfl (by kernel_rfl) (by kernel_rfl) (by kernel_rfl) (fun _ _ _ h => h) (Or.inl ⟨by rfl, ?y7⟩) (by assumption) ?r7
            case y7 => (intro w hSw; (try dsimp only at hSw); go_simp <;> with_reducible rfl)
            try simp only [Act.put, List.setIfInBounds_toArray, List.set_cons_zero, List.set_cons_succ]
            refine wpAnyH_takeD (i := 8) (d := 75) (v := ?v8) rfl rfl (by kernel_rfl) (by kernel_rfl) (by kernel_rfl) (fun _ _ _ h => h) (Or.inl ⟨by rfl, ?y8⟩) (by assumption) ?r8
            case y8 => (intro w hSw; (try dsimp only at hSw); go_simp <;> with_reducible rfl)
            try simp only [Act.put, List.setIfInBounds_toArray, List.set_cons_zero, List.set_cons_succ]
            refine wpAnyH_skips (by kernel_rfl) (fun _ _ _ _ h => h) (by assumption) [(9, 76), (10, 77), (11, 78), (12, 79), (13, 80), (14, 81), (15, 82), (16, 83), (17, 84), (18, 85), (19, 86)] 1 _ _ _ rfl (by kernel_rfl) ?_
            simp only [skipAct, skipListed, Act.put, List.setIfInBounds_toArray, List.set_cons_zero, List.set_cons_succ]
            refine wpAnyH_takeD (i := 20) (d := 87) (v := ?v20) rfl rfl (by kernel_rfl) (by kernel_rfl) (by kernel_rfl) (fun _ _ _ h => h) (Or.inl ⟨by rfl, ?y20⟩) (by assumption) ?r20
            case y20 => (intro w hSw; (try dsimp only at hSw); go_simp <;> with_reducible rfl)
            try simp only [Act.put, List.setIfInBounds_toArray, List.set_cons_zero, List.set_cons_succ]
            refine wpAnyH_done (by kernel_rfl) ?_ _
            have HKP := Lib.hid hkeep
            clear hkeep d0 d1 d2 d3 d4 d5 e5
            go_wp2_with fail
            go_ret
            exact ⟨by rw [HF.out]; rfl, HKP.out.2.2.2.2.2.2.2.2⟩
          rw [hvt] at HVT
          by_cases hel : ¬ Ns.elem ms[k].to ms[k].to[q].ch = q
          · have HF := Lib.hid (HE.out (fun h => hel (h.2.2.2.2 q hltq).2))
            have heb : ¬ Ns.ix (fun t : Tgt => Ns.same t.ch ms[k].to[q].ch) ms[k].to = (q : Int) := hel
            clear hel
            generalize Ns.ix (fun t : Tgt => Ns.same t.ch ms[k].to[q].ch) ms[k].to = EI at *
            go_upto_region 12 with fail
            go_region_held_law (fun w' => w'.cell? ⟨gm, 5, none⟩ = some (.slice (some ⟨b2, off2, none⟩) ms[k].to.length tc) ∧ w'.cell? ⟨b2, off2 + q * 6, none⟩ = some (.int .i64 ms[k].to[q].ch.dev) ∧ w'.cell? ⟨b2, off2 + q * 6 + 1, none⟩ = some (.int .i64 ms[k].to[q].ch.id) ∧ w'.cell? ⟨b2, off2 + q * 6 + 2, none⟩ = some (.int .i64 ms[k].to[q].ch.fid) ∧ w'.cell? ⟨b2, off2 + q * 6 + 3, none⟩ = some (.string (T ms[k].to[q].ch.path)) ∧ w'.cell? ⟨b2, off2 + q * 6 + 4, none⟩ = some (.string (T ms[k].to[q].ch.name)) ∧ w'.heap[w.heap.size]? = some (.cells #[.int .i64 id, .int .i64 r.dev, .int .i64 r.id, .int .i64 r.fid, .string (T r.path), .string (T r.name), .slice (some ⟨b, off, none⟩) ms.length cp] 26 (0, 0)) ∧ w'.heap[gm]? = some (.cells #[.int .i64 ms[k].fr.dev, .int .i64 ms[k].fr.id, .int .i64 ms[k].fr.fid, .string (T ms[k].fr.path), .string (T ms[k].fr.name), .slice (some ⟨b2, off2, none⟩) ms[k].to.length tc] 55 (0, 0)) ∧ Below w.heap.size w w') (first | assumption | exact ⟨e5, d0, d1, d2, d3, d4, HNW.out, HMW.out, HBWd.out⟩) (first | (go_at_call 35; with_reducible refine (HVT.out _ (by assumption)).mono ?_; rintro e w' ⟨rfl, hkeep⟩) | (go_at_call 37; with_reducible refine (HIN.out _ (by assumption)).mono ?_; rintro e w' ⟨rfl, hkeep⟩))
            have HKP := Lib.hid hkeep
            clear hkeep d0 d1 d2 d3 d4 d5 e5
            go_wp2_with fail
            go_ret
            exact ⟨by rw [HF.out]; rfl, HKP.out.2.2.2.2.2.2.2.2⟩
          have HS : Hid (∀ j (hj : j < q + 1) (hq : q + 1 ≤ ms[k].to.length), Ns.ok (ms[k].to[j]'(by omega)).ch ∧ Ns.elem ms[k].to (ms[k].to[j]'(by omega)).ch = j) := fun j hj hq' => by
            rcases Nat.lt_or_ge j q with h | h
            · exact hnq.out j h (by omega)
            · obtain rfl : j = q := by omega
              exact ⟨Ns.valid_yes hvt, by omega⟩
          have heb : (Ns.ix (fun t : Tgt => Ns.same t.ch ms[k].to[q].ch) ms[k].to != (q : Int)) = false := by rw [show Ns.ix (fun t : Tgt => Ns.same t.ch ms[k].to[q].ch) ms[k].to = q from (show Ns.elem ms[k].to ms[k].to[q].ch = q by omega)]; simp
          generalize Ns.ix (fun t : Tgt => Ns.same t.ch ms[k].to[q].ch) ms[k].to = EI at *
          go_upto_region 12 with fail
          go_region_held_law (fun w' => w'.cell? ⟨gm, 5, none⟩ = some (.slice (some ⟨b2, off2, none⟩) ms[k].to.length tc) ∧ w'.cell? ⟨b2, off2 + q * 6, none⟩ = some (.int .i64 ms[k].to[q].ch.dev) ∧ w'.cell? ⟨b2, off2 + q * 6 + 1, none⟩ = some (.int .i64 ms[k].to[q].ch.id) ∧ w'.cell? ⟨b2, off2 + q * 6 + 2, none⟩ = some (.int .i64 ms[k].to[q].ch.fid) ∧ w'.cell? ⟨b2, off2 + q * 6 + 3, none⟩ = some (.string (T ms[k].to[q].ch.path)) ∧ w'.cell? ⟨b2, off2 + q * 6 + 4, none⟩ = some (.string (T ms[k].to[q].ch.name)) ∧ w'.heap[w.heap.size]? = some (.cells #[.int .i64 id, .int .i64 r.dev, .int .i64 r.id, .int .i64 r.fid, .string (T r.path), .string (T r.name), .slice (some ⟨b, off, none⟩) ms.length cp] 26 (0, 0)) ∧ w'.heap[gm]? = some (.cells #[.int .i64 ms[k].fr.dev, .int .i64 ms[k].fr.id, .int .i64 ms[k].fr.fid, .string (T ms[k].fr.path), .string (T ms[k].fr.name), .slice (some ⟨b2, off2, none⟩) ms[k].to.length tc] 55 (0, 0)) ∧ Below w.heap.size w w') (first | assumption | exact ⟨e5, d0, d1, d2, d3, d4, HNW.out, HMW.out, HBWd.out⟩) (first | (go_at_call 35; with_reducible refine (HVT.out _ (by assumption)).mono ?_; rintro e w' ⟨rfl, hkeep⟩) | (go_at_call 37; with_reducible refine (HIN.out _ (by assumption)).mono ?_; rintro e w' ⟨rfl, hkeep⟩))
          have HKP := Lib.hid hkeep
          clear hkeep d0 d1 d2 d3 d4 d5 e5
          go_wp2_with fail
          go_roundw
          case rel => exact ⟨q + 1, by omega, by go_num, HS, HKP.out.2.2.2.2.2.2.1, HKP.out.2.2.2.2.2.2.2.1, HKP.out.2.2.2.2.2.2.2.2⟩
          case measure => simp [intOf]; omega
        · obtain rfl : q = ms[k].to.length := by omega
          have HS : Hid (∀ j (hj : j < k + 1) (hk : k + 1 ≤ ms.length), Ns.okM ms j (ms[j]'(by omega))) := fun j hj hk' => by
            rcases Nat.lt_or_ge j k with h | h
            · exact hn.out j h (by omega)
            · obtain rfl : j = k := by omega
              exact ⟨Ns.valid_yes hvf, HFI2.out, hu1, hu2, fun x hx => hnq.out x hx (Nat.le_refl _)⟩
          go_wp2_with fail
          go_roundw
          case rel => exact ⟨k + 1, by omega, by go_num, HS, HNW, HBW⟩
          case measure => simp [intOf]; omega
    · obtain rfl : k = ms.length := by omega
      have HF := Lib.hid (HOK.out fun j hj => hn.out j hj (Nat.le_refl _))
      go_wp2_with fail
      go_ret
      exact ⟨by rw [HF.out]; rfl, HBB.out⟩
end Go.Proofs.Ytganenaaglfdnaa
