/- What the laws' small returns: a Bool; where it is true the store has at most 200 blocks, each text at most 20000 bytes. Conditions: the slice holds the given blocks. -/
import Derived.Test.YtpcieookddpkhaaDoorBlkSame
set_option linter.unusedVariables false
set_option linter.unusedSimpArgs false
namespace Go.Proofs.YtpcieookddpkhaaDoor
open Go.RowKit
def SmallSays (bs : List Blk) (w : World) (e : Ending) (w' : World) : Prop :=
  ∃ B : Bool, e = .returned (.bool B) ∧ (B = true → bs.length ≤ 200 ∧ ∀ j (h : j < bs.length), bs[j].dt.length ≤ 20000 ∧ bs[j].sc.length ≤ 20000) ∧ Below w.heap.size w w'
set_option maxRecDepth 20000 in
set_option maxHeartbeats 1000000 in
theorem small_any (c : Int) (v : Value) (bs : List Blk) (w : World) (hv : Blks w v bs) (hl : bs.length ≤ 9223372036854775807) :
    Calls Tryd.prog 8 #[.agg #[.int .i64 c, v]] w (SmallSays bs w) := by
  obtain ⟨ao, n, cp, rfl⟩ := hv.form
  obtain ⟨rfl, k1⟩ := hv.at
  have HB := Lib.hid (Below.refl w.heap.size w)
  have H1 := Lib.hid k1
  have HL := Lib.hid hl
  clear hv k1 hl
  go_enter Tryd.func8, Tryd.ntmps8
  go_wp2_with fail
  go_loopw [3, 4] (fun m i wr => ∃ k N : Nat, k ≤ bs.length ∧ k ≤ 600 ∧ 39 * k ≤ N ∧ N ≤ 60039 ∧ i = .int .i64 (k : Int) ∧ m = .int .i64 (N : Int) ∧ Hid (N ≤ 20000 → ∀ j (hj : j < k) (hk : k ≤ bs.length), (bs[j]'(by omega)).dt.length ≤ 20000 ∧ (bs[j]'(by omega)).sc.length ≤ 20000) ∧ wr.heap[w.heap.size]? = some (.cells #[.int .i64 c, .slice ao bs.length cp] 24 (0, 0)) ∧ Below w.heap.size w wr) (fun _ i _ => 2000 - (intOf i).toNat)
  case atStart => exact ⟨0, 0, by omega, by omega, by omega, by omega, rfl, rfl, (fun _ j hj => by omega), heap_alloc_new _ _, HB.out.alloc (Nat.le_refl _) _⟩
  case round =>
    obtain ⟨k, N, hk, hk6, hkN, hN, rfl, rfl, hn, hr1, hb⟩ := hrel
    have q0 : wr.cell? ⟨w.heap.size, 1, none⟩ = some (.slice ao bs.length cp) := by rw [cell_of_row _ _ _ _ _ _ hr1]; rfl
    have HR1 := Lib.hid hr1
    have HBB := Lib.hid hb
    clear hr1 hb
    by_cases hlt : k < bs.length
    · by_cases hN2 : N ≤ 20000
      · obtain ⟨x1, o1, rfl, l1, c0, c1', c2'⟩ := H1.out k hlt
        rw [← HBB.out.cell (p := ⟨x1, o1 + k * 3, none⟩) l1] at c0
        rw [← HBB.out.cell (p := ⟨x1, o1 + k * 3 + 1, none⟩) l1] at c1'
        rw [← HBB.out.cell (p := ⟨x1, o1 + k * 3 + 2, none⟩) l1] at c2'
        obtain ⟨A, hA⟩ : ∃ A : Nat, min bs[k].dt.length 20000 = A := ⟨_, rfl⟩
        obtain ⟨D, hD⟩ : ∃ D : Nat, min bs[k].sc.length 20000 = D := ⟨_, rfl⟩
        have hA1 : min ((bs[k].dt.length : Nat) : Int) 20000 = (A : Int) := by omega
        have hD1 : min ((bs[k].sc.length : Nat) : Int) 20000 = (D : Int) := by omega
        have HS : Hid (N + (39 + A + D) ≤ 20000 → ∀ j (hj : j < k + 1) (hk : k + 1 ≤ bs.length), (bs[j]'(by omega)).dt.length ≤ 20000 ∧ (bs[j]'(by omega)).sc.length ≤ 20000) := fun h j hj hk' => by
          rcases Nat.lt_or_ge j k with h' | h'
          · exact hn.out hN2 j h' hk
          · obtain rfl : j = k := by omega
            omega
        have hA2 : (A : Int) ≤ 20000 := by omega
        have hD2 : (D : Int) ≤ 20000 := by omega
        have hNi : (N : Int) ≤ 20000 := by omega
        have hk7 : k + 1 ≤ 600 := by omega
        have w1 : IntKind.i64.wrap (39 + (A : Int)) = 39 + A := IntWalk.i64_in _ (by omega)
        have w2 : IntKind.i64.wrap (39 + (A : Int) + D) = 39 + A + D := IntWalk.i64_in _ (by omega)
        have w3 : IntKind.i64.wrap ((N : Int) + (39 + A + D)) = N + (39 + A + D) := IntWalk.i64_in _ (by omega)
        clear hA hD
        go_wp2_with fail
        go_quiet (fail)
        clear w1 w2 w3
        go_wp2_with fail
        go_roundw
        case rel => exact ⟨k + 1, N + (39 + A + D), by omega, hk7, by omega, by omega, by go_num, by go_num, HS, HR1.out, below_drewN HBB.out _⟩
        case measure => simp [intOf]; omega
      · have hNi : (20000 : Int) < (N : Int) := by omega
        go_wp2_with fail
        go_ret
        exact ⟨false, rfl, by simp, HBB.out⟩
    · obtain rfl : k = bs.length := by omega
      by_cases hN2 : N ≤ 20000
      · have hNi : (N : Int) ≤ 20000 := by omega
        by_cases h2 : bs.length ≤ 200
        · have h2i : (bs.length : Int) ≤ 200 := by omega
          have HF := Lib.hid (hn.out hN2)
          go_wp2_with fail
          go_ret
          exact ⟨_, rfl, fun _ => ⟨h2, fun j hj => HF.out j hj (Nat.le_refl _)⟩, HBB.out⟩
        · have h2i : (200 : Int) < bs.length := by omega
          go_wp2_with fail
          go_ret
          exact ⟨decide ((bs.length : Int) ≤ 200), rfl, fun h => absurd (of_decide_eq_true h) (by omega), HBB.out⟩
      · have hNi : (20000 : Int) < (N : Int) := by omega
        go_wp2_with fail
        go_ret
        exact ⟨false, rfl, by simp, HBB.out⟩
end Go.Proofs.YtpcieookddpkhaaDoor
