/- Lists of blocks in memory, and what New, Kind, known, at, Has return. Conditions: the slice holds the given blocks; at most 10^6 of them. -/
import Derived.Test.YtpcieookddpkhaaDoorBlkMath
import Derived.ArgAppend
import Derived.Deep.AppendLies
import Derived.Deep.Onto
set_option linter.unusedVariables false
set_option linter.unusedSimpArgs false
namespace Go.Proofs.YtpcieookddpkhaaDoor
open Go.RowKit
/-- A list of blocks in memory. -/
def Blks (w : World) (v : Value) (bs : List Blk) : Prop :=
  ∃ ao cap, v = .slice ao bs.length cap ∧ bs.length ≤ cap ∧ (ao = none → cap = 0) ∧ ∀ j (h : j < bs.length), ∃ b off, ao = some ⟨b, off, none⟩ ∧ b < w.heap.size ∧
    w.cell? ⟨b, off + j * 3, none⟩ = some (.string (T bs[j].sc)) ∧ w.cell? ⟨b, off + j * 3 + 1, none⟩ = some (.int .i64 bs[j].kd) ∧ w.cell? ⟨b, off + j * 3 + 2, none⟩ = some (.string (T bs[j].dt))
theorem Blks.below {w w' : World} {v : Value} {bs : List Blk} (h : Blks w v bs) (hb : Below w.heap.size w w') : Blks w' v bs := by
  obtain ⟨ao, cap, hv, hc, hn, hcell⟩ := h
  refine ⟨ao, cap, hv, hc, hn, fun j h => ?_⟩
  obtain ⟨b, off, ha, hlt, c0, c1, c2⟩ := hcell j h
  refine ⟨b, off, ha, Nat.lt_of_lt_of_le hlt hb.size, ?_, ?_, ?_⟩
  · rw [hb.cell (p := ⟨b, off + j * 3, none⟩) hlt]; exact c0
  · rw [hb.cell (p := ⟨b, off + j * 3 + 1, none⟩) hlt]; exact c1
  · rw [hb.cell (p := ⟨b, off + j * 3 + 2, none⟩) hlt]; exact c2
theorem teq_yes {a b : List UInt8} (h : a = b) : (a == b) = true := beq_iff_eq.2 h
theorem teq_no {a b : List UInt8} (h : ¬ a = b) : (a == b) = false := beq_eq_false_iff_ne.2 h

theorem kind_any (k : Int) (w : World) :
    Calls Tryd.prog 27 #[.int .i64 k] w fun e w' => e = .returned (.bool (Blok.known k)) ∧ w = w' := by
  have HF := Lib.hid (show Blok.known k = (decide (1 ≤ k) && decide (k ≤ 4)) from rfl)
  rcases Int.lt_or_le k 1 with h | h
  · go_enter Tryd.func27, Tryd.ntmps27
    go_wp2_with fail
    go_ret
    exact ⟨by rw [HF.out, decide_eq_false (by omega)]; rfl, rfl⟩
  · rcases Int.lt_or_le 4 k with h2 | h2
    · go_enter Tryd.func27, Tryd.ntmps27
      go_wp2_with fail
      go_ret
      exact ⟨by rw [HF.out, decide_eq_false (show ¬ k ≤ 4 by omega), Bool.and_false]; rfl, rfl⟩
    · go_enter Tryd.func27, Tryd.ntmps27
      go_wp2_with fail
      go_ret
      exact ⟨by rw [HF.out, decide_eq_true h, decide_eq_true h2]; rfl, rfl⟩
theorem known_any (k : Int) (w : World) :
    Calls Tryd.prog 29 #[.int .i64 k] w fun e w' => e = .returned (.bool (Blok.known k)) ∧ w = w' := by
  have HF := Lib.hid (show Blok.known k = (decide (1 ≤ k) && decide (k ≤ 4)) from rfl)
  rcases Int.lt_or_le k 1 with h | h
  · go_enter Tryd.func29, Tryd.ntmps29
    go_wp2_with fail
    go_ret
    exact ⟨by rw [HF.out, decide_eq_false (by omega)]; rfl, rfl⟩
  · rcases Int.lt_or_le 4 k with h2 | h2
    · go_enter Tryd.func29, Tryd.ntmps29
      go_wp2_with fail
      go_ret
      exact ⟨by rw [HF.out, decide_eq_false (show ¬ k ≤ 4 by omega), Bool.and_false]; rfl, rfl⟩
    · go_enter Tryd.func29, Tryd.ntmps29
      go_wp2_with fail
      go_ret
      exact ⟨by rw [HF.out, decide_eq_true h, decide_eq_true h2]; rfl, rfl⟩
theorem rnew_any (m : Int) (w : World) :
    Calls Tryd.prog 12 #[.int .i64 m] w fun e w' => e = .returned (.agg #[.int .i64 (Blok.capOf m), .slice none 0 0]) ∧ Below w.heap.size w w' := by
  have HF := Lib.hid (show Blok.capOf m = min (max m 1) 4096 from rfl)
  have HB := Lib.hid (Below.refl w.heap.size w)
  go_enter Tryd.func12, Tryd.ntmps12
  go_wp2_with fail
  exact bodyPost_ret (v := .agg #[.int .i64 (min (max m 1) 4096), .slice none 0 0]) (by simp [results, Tryd.results12, go_sem]) rfl ⟨by rw [HF.out], HB.out.alloc (Nat.le_refl _) _⟩
theorem new_any (m : Int) (w : World) :
    Calls Tryd.prog 11 #[.int .i64 m] w fun e w' => e = .returned (.agg #[.int .i64 (Blok.capOf m), .slice none 0 0]) ∧ Below w.heap.size w w' := by
  have HF := Lib.hid (show Blok.capOf m = min (max m 1) 4096 from rfl)
  have HB := Lib.hid (Below.refl w.heap.size w)
  go_enter Tryd.func11, Tryd.ntmps11
  go_wp2_with fail
  exact bodyPost_ret (v := .agg #[.int .i64 (min (max m 1) 4096), .slice none 0 0]) (by simp [results, Tryd.results11, go_sem]) rfl ⟨by rw [HF.out], HB.out.alloc (Nat.le_refl _) _⟩

set_option maxHeartbeats 1000000 in
theorem rat_any (v : Value) (bs : List Blk) (x : List UInt8) (w : World) (hv : Blks w v bs) (hl : bs.length ≤ 1000000) :
    Calls Tryd.prog 28 #[v, .string (T x)] w fun e w' => e = .returned (.int .i64 (Blok.idx x bs)) ∧ w = w' := by
  obtain ⟨ao, cap, rfl, hc, hn, hcell⟩ := hv
  have HC := Lib.hid hcell
  have HI := Lib.hid (Blok.idx_at x bs)
  have HN := Lib.hid (Blok.idx_none x bs)
  clear hcell hn
  go_enter Tryd.func28, Tryd.ntmps28
  go_wp2_with fail
  go_loop [5] (fun i => ∃ k : Nat, k ≤ bs.length ∧ i = .int .i64 (k : Int) ∧ Hid (∀ j (hj : j < k) (hk : k ≤ bs.length), ¬ (bs[j]'(by omega)).sc = x)) (fun i => bs.length - (intOf i).toNat)
  case atStart => exact ⟨0, by omega, rfl, fun j hj => by omega⟩
  case round =>
    obtain ⟨k, hk, rfl, hn⟩ := hrel
    by_cases hlt : k < bs.length
    · obtain ⟨b, off, rfl, hb, c0, _, _⟩ := HC.out k hlt
      by_cases he : bs[k].sc = x
      · have hq := teq_yes he
        have HF := Lib.hid (HI.out k hlt (fun j hj => hn.out j hj (by omega)) he)
        clear he
        go_wp2_with fail
        go_ret
        exact ⟨by rw [HF.out]; rfl, rfl⟩
      · have hq := teq_no he
        have HF : Hid (∀ j (hj : j < k + 1) (hk : k + 1 ≤ bs.length), ¬ (bs[j]'(by omega)).sc = x) := fun j hj hk' => by
          rcases Nat.lt_or_ge j k with h | h
          · exact hn.out j h (by omega)
          · obtain rfl : j = k := by omega
            exact he
        clear he
        go_wp2_with fail
        go_round
        case rel => exact ⟨k + 1, by omega, by go_num, HF⟩
        case measure => simp [intOf]; omega
    · obtain rfl : k = bs.length := by omega
      have HF := Lib.hid (HN.out (fun j hj => hn.out j hj (Nat.le_refl _)))
      go_wp2_with fail
      go_ret
      exact ⟨by rw [HF.out]; rfl, rfl⟩
/-- 'b.Score == score', the closure of index. -/
theorem cls_any (b : Blk) (x : List UInt8) (g : Nat) (w : World) (hg : w.cell? ⟨g, 0, none⟩ = some (.string (T x))) :
    Calls Tryd.prog 43 #[.agg #[.string (T b.sc), .int .i64 b.kd, .string (T b.dt)], .pointer (some ⟨g, 0, none⟩)] w fun e w' => e = .returned (.bool (decide (b.sc = x))) ∧ Below w.heap.size w w' := by
  have hlt : g < w.heap.size := block_lt_of_cell hg
  have hne : g ≠ w.heap.size := by omega
  have HB := Lib.hid (Below.refl w.heap.size w)
  by_cases he : b.sc = x
  · have hq := teq_yes he
    have HF := Lib.hid (decide_eq_true he)
    clear he
    go_enter Tryd.func43, Tryd.ntmps43
    go_wp2_with fail
    go_ret
    exact ⟨by rw [HF.out]; rfl, HB.out.alloc (Nat.le_refl _) _⟩
  · have hq := teq_no he
    have HF := Lib.hid (decide_eq_false he)
    clear he
    go_enter Tryd.func43, Tryd.ntmps43
    go_wp2_with fail
    go_ret
    exact ⟨by rw [HF.out]; rfl, HB.out.alloc (Nat.le_refl _) _⟩
set_option maxHeartbeats 1000000 in
theorem ifn_any (v : Value) (bs : List Blk) (x : List UInt8) (g : Nat) (w : World) (hg : w.cell? ⟨g, 0, none⟩ = some (.string (T x))) (hv : Blks w v bs) (hl : bs.length ≤ 1000000) :
    Calls Tryd.prog 42 #[v, .func (.func 43) #[] #[.pointer (some ⟨g, 0, none⟩)]] w fun e w' => e = .returned (.int .i64 (Blok.idx x bs)) ∧ Below w.heap.size w w' := by
  obtain ⟨ao, cap, rfl, hc, hn, hcell⟩ := hv
  have hlt0 : g < w.heap.size := block_lt_of_cell hg
  have HC := Lib.hid hcell
  have HG := Lib.hid hg
  have HI := Lib.hid (Blok.idx_at x bs)
  have HN := Lib.hid (Blok.idx_none x bs)
  have HB0 := Lib.hid (Below.refl w.heap.size w)
  clear hcell hn hg
  go_enter Tryd.func42, Tryd.ntmps42
  go_wp2_with fail
  go_loopw [8] (fun i wr => ∃ k : Nat, k ≤ bs.length ∧ i = .int .i64 (k : Int) ∧ Hid (∀ j (hj : j < k) (hk : k ≤ bs.length), ¬ (bs[j]'(by omega)).sc = x) ∧ Below w.heap.size w wr) (fun i _ => bs.length - (intOf i).toNat)
  case atStart => exact ⟨0, by omega, rfl, (fun j hj => by omega), HB0.out⟩
  case round =>
    obtain ⟨k, hk, rfl, hn, hb⟩ := hrel
    by_cases hlt : k < bs.length
    · obtain ⟨b, off, rfl, hbl, c0, c1, c2⟩ := HC.out k hlt
      have d0 := (hb.cell (p := ⟨b, off + k * 3, none⟩) hbl).trans c0
      have d1 := (hb.cell (p := ⟨b, off + k * 3 + 1, none⟩) hbl).trans c1
      have d2 := (hb.cell (p := ⟨b, off + k * 3 + 2, none⟩) hbl).trans c2
      have HCL := Lib.hid (cls_any bs[k] x g wr ((hb.cell (p := ⟨g, 0, none⟩) hlt0).trans HG.out))
      clear c0 c1 c2
      have HBB := Lib.hid hb
      clear hb
      by_cases he : bs[k].sc = x
      · have HF := Lib.hid (HI.out k hlt (fun j hj => hn.out j hj (by omega)) he)
        rw [decide_eq_true he] at HCL
        clear he
        go_wp2_with fail
        refine HCL.out.mono ?_; rintro e w1 ⟨rfl, h1⟩
        go_wp2_with fail
        go_ret
        exact ⟨by rw [HF.out]; rfl, bnext HBB.out h1⟩
      · have HF : Hid (∀ j (hj : j < k + 1) (hk : k + 1 ≤ bs.length), ¬ (bs[j]'(by omega)).sc = x) := fun j hj hk' => by
          rcases Nat.lt_or_ge j k with h | h
          · exact hn.out j h (by omega)
          · obtain rfl : j = k := by omega
            exact he
        rw [decide_eq_false he] at HCL
        clear he
        go_wp2_with fail
        refine HCL.out.mono ?_; rintro e w1 ⟨rfl, h1⟩
        go_wp2_with fail
        go_roundw
        case rel => exact ⟨k + 1, by omega, by go_num, HF, bnext HBB.out h1⟩
        case measure => simp [intOf]; omega
    · obtain rfl : k = bs.length := by omega
      have HF := Lib.hid (HN.out (fun j hj => hn.out j hj (Nat.le_refl _)))
      have HBB := Lib.hid hb
      clear hb
      go_wp2_with fail
      go_ret
      exact ⟨by rw [HF.out]; rfl, HBB.out⟩
end Go.Proofs.YtpcieookddpkhaaDoor
