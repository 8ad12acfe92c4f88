/- What mount.Right returns: Ns.right. Conditions: the slice holds the given mounts; at most 10^6 of them, each of at most 10^6 targets. -/
import Derived.Test.YtganenaaglfdnaaMntRFind
set_option linter.unusedVariables false
set_option linter.unusedSimpArgs false
namespace Go.Proofs.Ytganenaaglfdnaa
open Go.RowKit
namespace Ns
open Classical in
theorem right_no {id : Int} {r : Chn} {ms : List Mnt} (h : ¬ Right id r ms) : right id r ms = false := by unfold right; exact decide_eq_false h
open Classical in
theorem right_yes {id : Int} {r : Chn} {ms : List Mnt} (h : Right id r ms) : right id r ms = true := by unfold right; exact decide_eq_true h
open Classical in
theorem right_true {id : Int} {r : Chn} {ms : List Mnt} (h : right id r ms = true) : Right id r ms := by unfold right at h; exact of_decide_eq_true h
theorem not_at {id : Int} {r : Chn} {ms : List Mnt} {k : Nat} (hk : k < ms.length) (h : ¬ okM ms k ms[k]) : right id r ms = false := right_no fun hr => h (hr.2.2.2.2 k hk)
theorem valid_no {c : Chn} (h : valid c = false) : ¬ ok c := of_decide_eq_false h
theorem valid_yes {c : Chn} (h : valid c = true) : ok c := of_decide_eq_true h
/-- The first place of what stands at k is k or ahead of it. -/
theorem ix_self {α : Type} (p : α → Bool) (l : List α) (k : Nat) (hk : k < l.length) (hp : p l[k] = true) : 0 ≤ ix p l ∧ ix p l ≤ k := by
  have h0 := (ix_mem p l).2 ⟨_, List.getElem_mem hk, hp⟩
  obtain ⟨j, hj, e, _, hn⟩ := ix_hit p l h0
  refine ⟨h0, ?_⟩
  rcases Nat.lt_or_ge k j with h | h
  · exact absurd hp (hn k h)
  · omega
theorem find_self (ms : List Mnt) (k : Nat) (hk : k < ms.length) : 0 ≤ find ms ms[k].fr ∧ find ms ms[k].fr ≤ k := ix_self _ ms k hk (same_refl _)
theorem elem_self (u : List Tgt) (k : Nat) (hk : k < u.length) : 0 ≤ elem u u[k].ch ∧ elem u u[k].ch ≤ k := ix_self _ u k hk (same_refl _)
end Ns
theorem Tgts.at {w : World} {ao : Option Addr} {n cap : Nat} {l : List Tgt} (h : Tgts w (.slice ao n cap) l) : n = l.length ∧ ∀ j (hj : j < l.length), ∃ b off, ao = some ⟨b, off, none⟩ ∧ b < w.heap.size ∧ CCells w b (off + j * 6) l[j].ch ∧ w.cell? ⟨b, off + j * 6 + 5, none⟩ = some (.bool l[j].cr) := by
  obtain ⟨ao', cap', hv, _, _, hc⟩ := h
  cases hv
  exact ⟨rfl, hc⟩
theorem Mnts.at {w : World} {ao : Option Addr} {n cap : Nat} {l : List Mnt} (h : Mnts w (.slice ao n cap) l) : n = l.length ∧ ∀ j (hj : j < l.length), ∃ b off, ao = some ⟨b, off, none⟩ ∧ b < w.heap.size ∧ CCells w b (off + j * 6) l[j].fr ∧ ∃ tv, w.cell? ⟨b, off + j * 6 + 5, none⟩ = some tv ∧ Tgts w tv l[j].to := by
  obtain ⟨ao', cap', hv, _, _, hc⟩ := h
  cases hv
  exact ⟨rfl, hc⟩
set_option maxRecDepth 20000 in
set_option maxHeartbeats 4000000 in
theorem mright_any (id : Int) (r : Chn) (v : Value) (ms : List Mnt) (w : World) (hv : Mnts w v ms) (hl : ms.length ≤ 1000000) (hu : ∀ m ∈ ms, m.to.length ≤ 1000000) :
    Calls Try.prog 12 #[nsv id r v] w fun e w' => e = .returned (.bool (Ns.right id r ms)) ∧ Below w.heap.size w w' := by
  obtain ⟨ao, n, cp, rfl⟩ := hv.form
  obtain ⟨rfl, hat⟩ := hv.at
  have HB := Lib.hid (Below.refl w.heap.size w)
  have HM := Lib.hid hat
  have HV := Lib.hid hv
  have HU := Lib.hid hu
  have HVR := Lib.hid (fun W => mvalid_any r W)
  have HFI := Lib.hid (fun (c : Chn) (W : World) (h : Below w.heap.size w W) => find_any id r (.slice ao ms.length cp) ms c W (hv.below h) hl)
  have HVA := Lib.hid (fun (c : Chn) (W : World) => mvalid_any c W)
  unfold chv nsv at *
  clear hv hat hu
  rcases Int.lt_or_le id 0 with hi | hi
  · have HF := Lib.hid (Ns.right_no (id := id) (r := r) (ms := ms) (fun h => by have := h.1; omega))
    go_enter Try.func12, Try.ntmps12
    go_wp2_with fail
    go_ret
    exact ⟨by rw [HF.out]; rfl, HB.out.alloc (Nat.le_refl _) _⟩
  rcases Int.lt_or_le 9007199254740991 id with hi2 | hi2
  · have HF := Lib.hid (Ns.right_no (id := id) (r := r) (ms := ms) (fun h => by have := h.2.1; omega))
    go_enter Try.func12, Try.ntmps12
    go_wp2_with fail
    go_ret
    exact ⟨by rw [HF.out]; rfl, HB.out.alloc (Nat.le_refl _) _⟩
  go_enter Try.func12, Try.ntmps12
  go_wp2_with fail
  refine (HVR.out _).mono ?_; rintro e w1 ⟨rfl, b1⟩
  have hr1 := mafter1_new b1
  have HB1 := Lib.hid (mafter1 b1)
  clear b1
  have a0 : w1.cell? ⟨w.heap.size, 0, none⟩ = some (.int .i64 id) := by rw [cell_of_row _ _ _ _ _ _ hr1]; rfl
  have a1 : w1.cell? ⟨w.heap.size, 1, none⟩ = some (.int .i64 r.dev) := by rw [cell_of_row _ _ _ _ _ _ hr1]; rfl
  have a2 : w1.cell? ⟨w.heap.size, 2, none⟩ = some (.int .i64 r.id) := by rw [cell_of_row _ _ _ _ _ _ hr1]; rfl
  have a3 : w1.cell? ⟨w.heap.size, 3, none⟩ = some (.int .i64 r.fid) := by rw [cell_of_row _ _ _ _ _ _ hr1]; rfl
  have a4 : w1.cell? ⟨w.heap.size, 4, none⟩ = some (.string (T r.path)) := by rw [cell_of_row _ _ _ _ _ _ hr1]; rfl
  have a5 : w1.cell? ⟨w.heap.size, 5, none⟩ = some (.string (T r.name)) := by rw [cell_of_row _ _ _ _ _ _ hr1]; rfl
  have a6 : w1.cell? ⟨w.heap.size, 6, none⟩ = some (.slice ao ms.length cp) := by rw [cell_of_row _ _ _ _ _ _ hr1]; rfl
  have HR1 := Lib.hid hr1
  clear hr1
  cases hvr : Ns.valid r
  · have HF := Lib.hid (Ns.right_no (id := id) (r := r) (ms := ms) (fun h => Ns.valid_no hvr h.2.2.1))
    go_wp2_with fail
    go_ret
    exact ⟨by rw [HF.out]; rfl, HB1.out⟩
  rcases Nat.lt_or_ge 64 ms.length with h64 | h64
  · have HF := Lib.hid (Ns.right_no (id := id) (r := r) (ms := ms) (fun h => by have := h.2.2.2.1; omega))
    have hi64 : (64 : Int) < ms.length := by omega
    go_wp2_with fail
    go_ret
    exact ⟨by rw [HF.out]; rfl, HB1.out⟩
  have hi64 : (ms.length : Int) ≤ 64 := by omega
  have HOK := Lib.hid (fun h : ∀ i (h : i < ms.length), Ns.okM ms i ms[i] => Ns.right_yes (id := id) (r := r) (ms := ms) ⟨hi, hi2, Ns.valid_yes hvr, h64, h⟩)
  go_wp2_with fail
  go_loopw [30] (fun i wr => ∃ k : Nat, k ≤ ms.length ∧ i = .int .i64 (k : Int) ∧ Hid (∀ j (hj : j < k) (hk : k ≤ ms.length), Ns.okM ms j (ms[j]'(by omega))) ∧ Hid (wr.heap[w.heap.size]? = some (.cells #[.int .i64 id, .int .i64 r.dev, .int .i64 r.id, .int .i64 r.fid, .string (T r.path), .string (T r.name), .slice ao ms.length cp] 26 (0, 0))) ∧ Hid (Below w.heap.size w wr)) (fun i _ => ms.length - (intOf i).toNat)
  case atStart => exact ⟨0, by omega, rfl, (fun j hj => by omega), HR1.out, HB1.out⟩
  case round =>
    obtain ⟨k, hk, rfl, hn, HRW, HBB⟩ := hrel
    clear a0 a1 a2 a3 a4 a5 a6
    by_cases hlt : k < ms.length
    · obtain ⟨b, off, rfl, hbl, cc, tv, c5, ct⟩ := HM.out k hlt
      obtain ⟨ta, tn, tc, rfl⟩ := ct.form
      obtain ⟨rfl, hta⟩ := ct.at
      obtain ⟨d0, d1, d2, d3, d4⟩ := cc.below (w' := wr) ⟨HBB.out.os, HBB.out.tape, HBB.out.output, HBB.out.size, HBB.out.block⟩ hbl
      have d5 := (HBB.out.cell (p := ⟨b, off + k * 6 + 5, none⟩) hbl).trans c5
      have HCT := Lib.hid ct
      have HTA := Lib.hid hta
      have HTL := Lib.hid (HU.out ms[k] (List.getElem_mem hlt))
      have HE := Lib.hid (Ns.not_at (id := id) (r := r) hlt)
      have HFS := Lib.hid (Ns.find_self ms k hlt)
      have hki : (k : Int) < ms.length := by omega
      clear cc c5 ct hta
      go_wp2_with fail
      with_reducible refine (HVA.out _ _).mono ?_; rintro e w2 ⟨rfl, b2⟩
      have hm2 := mafter1_new b2
      have HB2 := Lib.hid (bnext HBB.out (mafter1 b2))
      have hn2 := ((mafter1 b2).block _ (row_lt HRW.out)).trans HRW.out
      have e0 : w2.cell? ⟨wr.heap.size, 0, none⟩ = some (.int .i64 ms[k].fr.dev) := by rw [cell_of_row _ _ _ _ _ _ hm2]; rfl
      have e1 : w2.cell? ⟨wr.heap.size, 1, none⟩ = some (.int .i64 ms[k].fr.id) := by rw [cell_of_row _ _ _ _ _ _ hm2]; rfl
      have e2 : w2.cell? ⟨wr.heap.size, 2, none⟩ = some (.int .i64 ms[k].fr.fid) := by rw [cell_of_row _ _ _ _ _ _ hm2]; rfl
      have e3 : w2.cell? ⟨wr.heap.size, 3, none⟩ = some (.string (T ms[k].fr.path)) := by rw [cell_of_row _ _ _ _ _ _ hm2]; rfl
      have e4 : w2.cell? ⟨wr.heap.size, 4, none⟩ = some (.string (T ms[k].fr.name)) := by rw [cell_of_row _ _ _ _ _ _ hm2]; rfl
      have e5 : w2.cell? ⟨wr.heap.size, 5, none⟩ = some (.slice ta ms[k].to.length tc) := by rw [cell_of_row _ _ _ _ _ _ hm2]; rfl
      have a0 : w2.cell? ⟨w.heap.size, 0, none⟩ = some (.int .i64 id) := by rw [cell_of_row _ _ _ _ _ _ hn2]; rfl
      have a1 : w2.cell? ⟨w.heap.size, 1, none⟩ = some (.int .i64 r.dev) := by rw [cell_of_row _ _ _ _ _ _ hn2]; rfl
      have a2 : w2.cell? ⟨w.heap.size, 2, none⟩ = some (.int .i64 r.id) := by rw [cell_of_row _ _ _ _ _ _ hn2]; rfl
      have a3 : w2.cell? ⟨w.heap.size, 3, none⟩ = some (.int .i64 r.fid) := by rw [cell_of_row _ _ _ _ _ _ hn2]; rfl
      have a4 : w2.cell? ⟨w.heap.size, 4, none⟩ = some (.string (T r.path)) := by rw [cell_of_row _ _ _ _ _ _ hn2]; rfl
      have a5 : w2.cell? ⟨w.heap.size, 5, none⟩ = some (.string (T r.name)) := by rw [cell_of_row _ _ _ _ _ _ hn2]; rfl
      have a6 : w2.cell? ⟨w.heap.size, 6, none⟩ = some (.slice (some ⟨b, off, none⟩) ms.length cp) := by rw [cell_of_row _ _ _ _ _ _ hn2]; rfl
      have HM2 := Lib.hid hm2
      have HN2 := Lib.hid hn2
      clear b2 hm2 hn2 d0 d1 d2 d3 d4 d5
      cases hvf : Ns.valid ms[k].fr
      · have HF := Lib.hid (HE.out (fun h => Ns.valid_no hvf h.1))
        go_wp2_with fail
        go_ret
        exact ⟨by rw [HF.out]; rfl, HB2.out⟩
      go_wp2_with fail
      with_reducible refine (HFI.out _ _ HB2.out).mono ?_; rintro e w3 ⟨rfl, b3⟩
      have hm3 := (b3.block _ (row_lt HM2.out)).trans HM2.out
      have hn3 := (b3.block _ (row_lt HN2.out)).trans HN2.out
      have HB3 := Lib.hid (bnext HB2.out b3)
      clear b3 e0 e1 e2 e3 e4 e5 a0 a1 a2 a3 a4 a5 a6
      have e0 : w3.cell? ⟨wr.heap.size, 0, none⟩ = some (.int .i64 ms[k].fr.dev) := by rw [cell_of_row _ _ _ _ _ _ hm3]; rfl
      have e1 : w3.cell? ⟨wr.heap.size, 1, none⟩ = some (.int .i64 ms[k].fr.id) := by rw [cell_of_row _ _ _ _ _ _ hm3]; rfl
      have e2 : w3.cell? ⟨wr.heap.size, 2, none⟩ = some (.int .i64 ms[k].fr.fid) := by rw [cell_of_row _ _ _ _ _ _ hm3]; rfl
      have e3 : w3.cell? ⟨wr.heap.size, 3, none⟩ = some (.string (T ms[k].fr.path)) := by rw [cell_of_row _ _ _ _ _ _ hm3]; rfl
      have e4 : w3.cell? ⟨wr.heap.size, 4, none⟩ = some (.string (T ms[k].fr.name)) := by rw [cell_of_row _ _ _ _ _ _ hm3]; rfl
      have e5 : w3.cell? ⟨wr.heap.size, 5, none⟩ = some (.slice ta ms[k].to.length tc) := by rw [cell_of_row _ _ _ _ _ _ hm3]; rfl
      have HM3 := Lib.hid hm3
      have HN3 := Lib.hid hn3
      clear hm3 hn3
      rcases Int.lt_or_le (Ns.find ms ms[k].fr) k with hfk | hfk
      · have HF := Lib.hid (HE.out (fun h => by have := h.2.1; omega))
        generalize Ns.find ms ms[k].fr = FI at *
        go_wp2_with fail
        go_ret
        exact ⟨by rw [HF.out]; rfl, HB3.out⟩
      have HFE := Lib.hid (show Ns.find ms ms[k].fr = k by have := HFS.out.2; omega)
      generalize hFI : Ns.find ms ms[k].fr = FI at *
      have HFI2 := Lib.hid hFI
      clear hFI
      rcases Nat.lt_or_ge ms[k].to.length 1 with hu1 | hu1
      · have HF := Lib.hid (HE.out (fun h => by have := h.2.2.1; omega))
        have hui : (ms[k].to.length : Int) < 1 := by omega
        go_wp2_with fail
        go_ret
        exact ⟨by rw [HF.out]; rfl, HB3.out⟩
      have hui : (1 : Int) ≤ ms[k].to.length := by omega
      rcases Nat.lt_or_ge 16 ms[k].to.length with hu2 | hu2
      · have HF := Lib.hid (HE.out (fun h => by have := h.2.2.2.1; omega))
        have hui2 : (16 : Int) < ms[k].to.length := by omega
        go_wp2_with fail
        go_ret
        exact ⟨by rw [HF.out]; rfl, HB3.out⟩
      have hui2 : (ms[k].to.length : Int) ≤ 16 := by omega
      generalize wr.heap.size = gm at *
      go_wp2_with fail
      go_loopw [62] (fun i wr2 => ∃ q : Nat, q ≤ ms[k].to.length ∧ i = .int .i64 (q : Int) ∧ Hid (∀ j (hj : j < q) (hq : q ≤ ms[k].to.length), Ns.ok (ms[k].to[j]'(by omega)).ch ∧ Ns.elem ms[k].to (ms[k].to[j]'(by omega)).ch = j) ∧ Hid (wr2.heap[w.heap.size]? = some (.cells #[.int .i64 id, .int .i64 r.dev, .int .i64 r.id, .int .i64 r.fid, .string (T r.path), .string (T r.name), .slice (some ⟨b, off, none⟩) ms.length cp] 26 (0, 0))) ∧ Hid (wr2.heap[gm]? = some (.cells #[.int .i64 ms[k].fr.dev, .int .i64 ms[k].fr.id, .int .i64 ms[k].fr.fid, .string (T ms[k].fr.path), .string (T ms[k].fr.name), .slice ta ms[k].to.length tc] 55 (0, 0))) ∧ Hid (Below w.heap.size w wr2)) (fun i _ => ms[k].to.length - (intOf i).toNat)
      case atStart => exact ⟨0, by omega, rfl, (fun j hj => by omega), HN3.out, HM3.out, HB3.out⟩
      case round =>
        obtain ⟨q, hq, rfl, hnq, HNW, HMW, HBW⟩ := hrel
        clear e0 e1 e2 e3 e4 e5
        by_cases hltq : q < ms[k].to.length
        · obtain ⟨b2, off2, rfl, hb2, cc2, cr2⟩ := HTA.out q hltq
          obtain ⟨d0, d1, d2, d3, d4⟩ := cc2.below (w' := wr) ⟨HBW.out.os, HBW.out.tape, HBW.out.output, HBW.out.size, HBW.out.block⟩ hb2
          have d5 := (HBW.out.cell (p := ⟨b2, off2 + q * 6 + 5, none⟩) hb2).trans cr2
          have HEL := Lib.hid (fun (W : World) (h : Below w.heap.size w W) => element_any (.slice (some ⟨b2, off2, none⟩) ms[k].to.length tc) ms[k].to ms[k].to[q].ch W (HCT.out.below h) HTL.out)
          have HES := Lib.hid (Ns.elem_self ms[k].to q hltq)
          have hqi : (q : Int) < ms[k].to.length := by omega
          unfold chv at HEL
          clear cc2 cr2
          go_wp2_with fail
          with_reducible refine (HVA.out _ _).mono ?_; rintro e w4 ⟨rfl, b4⟩
          have ht4 := mafter1_new b4
          have hm4 := ((mafter1 b4).block _ (row_lt HMW.out)).trans HMW.out
          have hn4 := ((mafter1 b4).block _ (row_lt HNW.out)).trans HNW.out
          have HB4 := Lib.hid (bnext HBW.out (mafter1 b4))
          have e0 : w4.cell? ⟨gm, 0, none⟩ = some (.int .i64 ms[k].fr.dev) := by rw [cell_of_row _ _ _ _ _ _ hm4]; rfl
          have e1 : w4.cell? ⟨gm, 1, none⟩ = some (.int .i64 ms[k].fr.id) := by rw [cell_of_row _ _ _ _ _ _ hm4]; rfl
          have e2 : w4.cell? ⟨gm, 2, none⟩ = some (.int .i64 ms[k].fr.fid) := by rw [cell_of_row _ _ _ _ _ _ hm4]; rfl
          have e3 : w4.cell? ⟨gm, 3, none⟩ = some (.string (T ms[k].fr.path)) := by rw [cell_of_row _ _ _ _ _ _ hm4]; rfl
          have e4 : w4.cell? ⟨gm, 4, none⟩ = some (.string (T ms[k].fr.name)) := by rw [cell_of_row _ _ _ _ _ _ hm4]; rfl
          have e5 : w4.cell? ⟨gm, 5, none⟩ = some (.slice (some ⟨b2, off2, none⟩) ms[k].to.length tc) := by rw [cell_of_row _ _ _ _ _ _ hm4]; rfl
          have f0 : w4.cell? ⟨wr.heap.size, 0, none⟩ = some (.int .i64 ms[k].to[q].ch.dev) := by rw [cell_of_row _ _ _ _ _ _ ht4]; rfl
          have f1 : w4.cell? ⟨wr.heap.size, 1, none⟩ = some (.int .i64 ms[k].to[q].ch.id) := by rw [cell_of_row _ _ _ _ _ _ ht4]; rfl
          have f2 : w4.cell? ⟨wr.heap.size, 2, none⟩ = some (.int .i64 ms[k].to[q].ch.fid) := by rw [cell_of_row _ _ _ _ _ _ ht4]; rfl
          have f3 : w4.cell? ⟨wr.heap.size, 3, none⟩ = some (.string (T ms[k].to[q].ch.path)) := by rw [cell_of_row _ _ _ _ _ _ ht4]; rfl
          have f4 : w4.cell? ⟨wr.heap.size, 4, none⟩ = some (.string (T ms[k].to[q].ch.name)) := by rw [cell_of_row _ _ _ _ _ _ ht4]; rfl
          have f5 : w4.cell? ⟨wr.heap.size, 5, none⟩ = some (.bool ms[k].to[q].cr) := by rw [cell_of_row _ _ _ _ _ _ ht4]; rfl
          have HM4 := Lib.hid hm4
          have HN4 := Lib.hid hn4
          clear b4 ht4 hm4 hn4 d0 d1 d2 d3 d4 d5
          cases hvt : Ns.valid ms[k].to[q].ch
          · have HF := Lib.hid (HE.out (fun h => Ns.valid_no hvt (h.2.2.2.2 q hltq).1))
            go_wp2_with fail
            go_ret
            exact ⟨by rw [HF.out]; rfl, HB4.out⟩
          go_wp2_with fail
          with_reducible refine (HEL.out _ HB4.out).mono ?_; rintro e w5 ⟨rfl, b5⟩
          have HM5 := Lib.hid ((b5.block _ (row_lt HM4.out)).trans HM4.out)
          have HN5 := Lib.hid ((b5.block _ (row_lt HN4.out)).trans HN4.out)
          have HB5 := Lib.hid (bnext HB4.out b5)
          clear b5 e0 e1 e2 e3 e4 e5 f0 f1 f2 f3 f4 f5
          rcases Int.lt_or_le (Ns.elem ms[k].to ms[k].to[q].ch) q with hel | hel
          · have HF := Lib.hid (HE.out (fun h => by have := (h.2.2.2.2 q hltq).2; omega))
            generalize Ns.elem ms[k].to ms[k].to[q].ch = EI at *
            go_wp2_with fail
            go_ret
            exact ⟨by rw [HF.out]; rfl, HB5.out⟩
          have HS : Hid (∀ j (hj : j < q + 1) (hq : q + 1 ≤ ms[k].to.length), Ns.ok (ms[k].to[j]'(by omega)).ch ∧ Ns.elem ms[k].to (ms[k].to[j]'(by omega)).ch = j) := fun j hj hq' => by
            rcases Nat.lt_or_ge j q with h | h
            · exact hnq.out j h (by omega)
            · obtain rfl : j = q := by omega
              exact ⟨Ns.valid_yes hvt, by have := HES.out.2; omega⟩
          generalize Ns.elem ms[k].to ms[k].to[q].ch = EI at *
          go_wp2_with fail
          go_roundw
          case rel => exact ⟨q + 1, by omega, by go_num, HS, HN5, HM5, HB5⟩
          case measure => simp [intOf]; omega
        · obtain rfl : q = ms[k].to.length := by omega
          have HS : Hid (∀ j (hj : j < k + 1) (hk : k + 1 ≤ ms.length), Ns.okM ms j (ms[j]'(by omega))) := fun j hj hk' => by
            rcases Nat.lt_or_ge j k with h | h
            · exact hn.out j h (by omega)
            · obtain rfl : j = k := by omega
              exact ⟨Ns.valid_yes hvf, HFI2.out.trans HFE.out, hu1, hu2, fun x hx => hnq.out x hx (Nat.le_refl _)⟩
          go_wp2_with fail
          go_roundw
          case rel => exact ⟨k + 1, by omega, by go_num, HS, HNW, HBW⟩
          case measure => simp [intOf]; omega
    · obtain rfl : k = ms.length := by omega
      have HF := Lib.hid (HOK.out fun j hj => hn.out j hj (Nat.le_refl _))
      go_wp2_with fail
      go_ret
      exact ⟨by rw [HF.out]; rfl, HBB.out⟩
end Go.Proofs.Ytganenaaglfdnaa
