/- What Used returns: Blok.used. Conditions: the slice holds the given blocks; at most 10^6 of them, with at most 10^6 bytes each. -/
import Derived.Test.YtpcieookddpkhaaDoorBlkSame
set_option linter.unusedVariables false
set_option linter.unusedSimpArgs false
namespace Go.Proofs.YtpcieookddpkhaaDoor
open Go.RowKit
namespace Blok
theorem used_take (bs : List Blk) (k : Nat) (h : k < bs.length) : used (bs.take (k + 1)) = used (bs.take k) + (39 + bs[k].dt.length) := by
  rw [List.take_succ_eq_append_getElem h]
  have key : ∀ (a : List Blk) (b : Blk), used (a ++ [b]) = used a + (39 + b.dt.length) := by
    intro a b
    induction a with
    | nil => simp [used]
    | cons x a ih => rw [List.cons_append, used, used, ih]; omega
  exact key _ _
theorem used_le (bs : List Blk) (h : ∀ j (hj : j < bs.length), bs[j].dt.length ≤ 1000000) : used bs ≤ bs.length * 1000039 := by
  induction bs with
  | nil => simp [used]
  | cons b l ih =>
    have h0 := h 0 (by simp)
    have := ih (fun j hj => by have := h (j + 1) (by simpa using hj); simpa using this)
    rw [used, List.length_cons]
    simp at h0
    omega
end Blok
set_option maxRecDepth 20000 in
set_option maxHeartbeats 1000000 in
theorem used_any (c : Int) (v : Value) (bs : List Blk) (w : World) (hv : Blks w v bs) (hl : bs.length ≤ 1000000) (hd : ∀ j (h : j < bs.length), bs[j].dt.length ≤ 1000000) :
    Calls Tryd.prog 21 #[.agg #[.int .i64 c, v]] w fun e w' => e = .returned (.int .i64 (Blok.used bs : Nat)) ∧ Below w.heap.size w w' := by
  obtain ⟨ao, n, cp, rfl⟩ := hv.form
  obtain ⟨rfl, k1⟩ := hv.at
  have HB := Lib.hid (Below.refl w.heap.size w)
  have H1 := Lib.hid k1
  have HD := Lib.hid hd
  clear hv k1 hd
  go_enter Tryd.func21, Tryd.ntmps21
  go_wp2_with fail
  go_loopw [3, 9] (fun m i wr => ∃ k : Nat, k ≤ bs.length ∧ i = .int .i64 (k : Int) ∧ m = .int .i64 (Blok.used (bs.take k) : Nat) ∧ Below w.heap.size w wr) (fun _ i _ => bs.length - (intOf i).toNat)
  case atStart => exact ⟨0, by omega, rfl, rfl, HB.out.alloc (Nat.le_refl _) _⟩
  case round =>
    obtain ⟨k, hk, rfl, rfl, hb⟩ := hrel
    have HBB := Lib.hid hb
    clear hb
    by_cases hlt : k < bs.length
    · obtain ⟨x1, o1, rfl, l1, c0, c1', c2'⟩ := H1.out k hlt
      rw [← HBB.out.cell (p := ⟨x1, o1 + k * 3, none⟩) l1] at c0
      rw [← HBB.out.cell (p := ⟨x1, o1 + k * 3 + 1, none⟩) l1] at c1'
      rw [← HBB.out.cell (p := ⟨x1, o1 + k * 3 + 2, none⟩) l1] at c2'
      have HU := Lib.hid (Blok.used_take bs k hlt)
      have hu : Blok.used (bs.take k) ≤ 1000039000000 := by
        have := Blok.used_le (bs.take k) (fun j hj => by rw [List.getElem_take]; rw [List.length_take] at hj; exact HD.out j (by omega))
        rw [List.length_take] at this
        have : min k bs.length * 1000039 ≤ 1000000 * 1000039 := Nat.mul_le_mul_right _ (by omega)
        omega
      have hdd := HD.out k hlt
      generalize Blok.used (bs.take k) = U at *
      have s1 : (39 : Int) + bs[k].dt.length ≤ 2000000 := by omega
      have s2 : (U : Int) + (39 + bs[k].dt.length) ≤ 2000000000000 := by omega
      go_wp2_with fail
      go_roundw
      case rel => exact ⟨k + 1, by omega, by go_num, by rw [HU.out]; go_num, HBB.out.alloc HBB.out.size _⟩
      case measure => simp [intOf]; omega
    · obtain rfl : k = bs.length := by omega
      have HT := Lib.hid (List.take_of_length_le (l := bs) (i := bs.length) (Nat.le_refl _))
      rw [HT.out]
      go_wp2_with fail
      go_ret
      exact ⟨rfl, HBB.out⟩
end Go.Proofs.YtpcieookddpkhaaDoor
