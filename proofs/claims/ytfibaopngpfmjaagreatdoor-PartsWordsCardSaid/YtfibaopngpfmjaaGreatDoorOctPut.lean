/- What octet.Put and the reference's Put return: the text and the error, as Oct.putS, Oct.putE say; nothing that was there is written. Conditions: the number and the width are ints. -/
import Derived.Test.YtfibaopngpfmjaaGreatDoorKit
import Derived.Test.YtfibaopngpfmjaaGreatDoorOctMath
set_option linter.unusedVariables false
namespace Go.Proofs.YtfibaopngpfmjaaGreatDoor
open Go.RowKit
theorem info5 : (Tryz.prog.info? 5).map (fun i => (i.zero, i.size, i.bytes)) = some (some (.int .u8 0), 1, 1) := by kernel_rfl

def PutSays (n wd : Int) (w : World) (e : Ending) (w' : World) : Prop :=
  e = .returned (.tuple #[.string (T (Oct.putS n wd)), .int .i64 (Oct.putE n wd)]) ∧ Below w.heap.size w w'

theorem put_says {n wd E : Int} {w w' : World} (h : Oct.putE n wd = E) (hE : E ≠ 0) (hb : Below w.heap.size w w') :
    PutSays n wd w (.returned (.tuple #[.string (T []), .int .i64 E])) w' := by
  unfold PutSays Oct.putS
  rw [h, if_neg hE]; exact ⟨rfl, hb⟩

theorem pow_bits (k : Nat) : (256 : Int) ^ k = 2 ^ (8 * k) := by rw [show (256 : Int) = 2 ^ 8 from rfl, ← Int.pow_mul]

theorem put_ok (n : Int) (k : Nat) (w w' : World) (hk : 1 ≤ k) (hk2 : k ≤ 8) (hn : 0 ≤ n) (hf : n < 256 ^ k) (hb : Below w.heap.size w w') :
    PutSays n k w (.returned (.tuple #[.string (T (Oct.le k n.toNat)), .int .i64 0])) w' := by
  have hE : Oct.putE n k = 0 := by
    unfold Oct.putE
    rw [if_neg (by omega), if_neg]
    rw [Int.toNat_natCast]; omega
  unfold PutSays Oct.putS
  rw [hE, if_pos rfl]; exact ⟨rfl, hb⟩

set_option maxHeartbeats 400000 in
theorem put_arg (n wd : Int) (w : World) (hw : wd < 1 ∨ 8 < wd) :
    Calls Tryz.prog 128 #[.int .i64 n, .int .i64 wd] w (PutSays n wd w) := by
  have hE : Oct.putE n wd = 1 := by unfold Oct.putE; rw [if_pos hw]
  have HF := Lib.hid (put_says hE (by decide) (Below.refl _ w)); clear hE
  by_cases h : wd < 1
  · go_enter Tryz.func128, Tryz.ntmps128
    go_wp2
    go_ret2
    exact HF.out
  · have h2 : 8 < wd := by omega
    clear hw
    go_enter Tryz.func128, Tryz.ntmps128
    go_wp2
    go_ret2
    exact HF.out

set_option maxHeartbeats 400000 in
theorem put_neg (n wd : Int) (w : World) (h1 : 1 ≤ wd) (h2 : wd ≤ 8) (h3 : n < 0) :
    Calls Tryz.prog 128 #[.int .i64 n, .int .i64 wd] w (PutSays n wd w) := by
  have hE : Oct.putE n wd = 5 := by unfold Oct.putE; rw [if_neg (by omega), if_pos (.inl h3)]
  have HF := Lib.hid (put_says hE (by decide) (Below.refl _ w)); clear hE
  go_enter Tryz.func128, Tryz.ntmps128
  go_wp2
  go_ret2
  exact HF.out

theorem div_pos_iff (n : Int) (k : Nat) (hn : 0 ≤ n) : 0 < n / 2 ^ (8 * k) ↔ (256 : Int) ^ k ≤ n := by
  rw [pow_bits]
  have hp : (0 : Int) < 2 ^ (8 * k) := Int.pow_pos (by decide)
  constructor
  · intro h
    have := (Int.le_ediv_iff_mul_le (a := 1) (b := n) hp).1 (by omega)
    omega
  · intro h
    have := (Int.le_ediv_iff_mul_le (a := 1) (b := n) hp).2 (by omega)
    omega

set_option maxHeartbeats 400000 in
theorem put_big (n : Int) (k : Nat) (w : World) (h1 : 1 ≤ k) (h2 : k < 8) (h3 : 0 ≤ n) (h4 : (256 : Int) ^ k ≤ n) :
    Calls Tryz.prog 128 #[.int .i64 n, .int .i64 k] w (PutSays n k w) := by
  have hE : Oct.putE n k = 5 := by unfold Oct.putE; rw [if_neg (by omega), if_pos (.inr (by rw [Int.toNat_natCast]; exact h4))]
  have HF := Lib.hid (put_says hE (by decide) (Below.refl _ w)); clear hE
  have hd : decide (0 < n / 2 ^ (8 * k)) = true := by rw [decide_eq_true_eq, div_pos_iff n k h3]; exact h4
  have h5 : (1 : Int) ≤ k ∧ (k : Int) < 8 := by omega
  clear h4
  go_enter Tryz.func128, Tryz.ntmps128
  go_wp2
  go_ret2
  exact HF.out

theorem put_step (n : Int) (k j : Nat) (hn : 0 ≤ n) (h : j < k) :
    (bys (Oct.le j n.toNat) ++ List.replicate (k - j) (Value.int .u8 0)).set j (.int .u8 (n / 2 ^ (8 * j) % 256)) = bys (Oct.le (j + 1) n.toNat) ++ List.replicate (k - (j + 1)) (Value.int .u8 0) := by
  have e1 : k - j = (k - (j + 1)) + 1 := by omega
  rw [e1, List.replicate_succ, List.set_append_right _ _ (by rw [bys_length, Oct.le_length]; omega), bys_length, Oct.le_length, Nat.sub_self, List.set_cons_zero, Oct.le_snoc, bys_append, List.append_assoc]
  congr 1
  simp only [bys, List.map_cons, List.map_nil, List.cons_append, List.nil_append, List.cons.injEq, and_true, Value.int.injEq, true_and]
  obtain ⟨m, rfl⟩ := Int.eq_ofNat_of_zero_le hn
  have e2 : (256 : Nat) ^ j = 2 ^ (8 * j) := by rw [show (256 : Nat) = 2 ^ 8 from rfl, ← Nat.pow_mul]
  have e3 : ∀ x : Nat, (UInt8.ofNat x).toNat = x % 256 := fun x => by simp
  rw [Int.toNat_natCast, e3, e2]
  rfl
set_option maxRecDepth 20000 in
set_option maxHeartbeats 400000 in
theorem put_good (n : Int) (k : Nat) (w : World) (hw : 1 ≤ k) (hw2 : k ≤ 8) (hn : 0 ≤ n) (hf : n < 256 ^ k) :
    Calls Tryz.prog 128 #[.int .i64 n, .int .i64 (k : Int)] w (PutSays n k w) := by
  obtain ⟨i0, hi, hz0, hz1, hz2⟩ := info_parts info5
  have h1 : (1 : Int) ≤ k ∧ (k : Int) ≤ 8 := by omega
  have HF := Lib.hid (fun w' => put_ok n k w w' hw hw2 hn hf)
  have hd : decide (0 < n / 2 ^ (8 * k)) = false := by rw [decide_eq_false_iff_not, div_pos_iff n k hn]; omega
  clear hf
  by_cases h8 : (k : Int) < 8
  all_goals
    go_enter Tryz.func128, Tryz.ntmps128
    go_wp2_with (at_make; refine wpList_make_full _ rfl _ _ 152 rfl w.heap.size 5 i0 (.int .u8 0) 1 Tryz.underlying152 hi hz0 hz1 _ _ _ _ k rfl rfl rfl rfl ?b1 ?b2 ?b3 ?_)
    case b1 => first | (rw [hz2]; omega) | omega
    case b2 => unfold maxLen; omega
    try (case b3 => omega)
    intro w1 hown hg
    go_wp2
    go_loopw [31] (fun i wr => ∃ j : Nat, j ≤ k ∧ i = .int .i64 j ∧ wr.ownsRow w.heap.size 5 1 (.slice (some ⟨w.heap.size, 0, none⟩) k k) k (bys (Oct.le j n.toNat) ++ List.replicate (k - j) (.int .u8 0)) ∧ Below w.heap.size w wr) (fun i _ => k - (intOf i).toNat)
    case atStart =>
      refine ⟨0, Nat.zero_le _, rfl, ?_, (Below.refl _ _).grown hg (Nat.le_refl _) (by simp)⟩
      rw [toList_madeCells_one] at hown
      simpa [Oct.le, bys] using hown
    case round =>
      obtain ⟨j, hj, rfl, hown, hb⟩ := hrel
      by_cases hlt : j < k
      · have hfz := hown.frozenAt j
        have hc : wr.cell? ⟨w.heap.size, j, none⟩ = some (.int .u8 0) := by
          rw [hown.cellAt j (by omega), List.getElem?_append_right (by rw [bys_length, Oct.le_length]; omega), bys_length, Oct.le_length, Nat.sub_self, List.getElem?_replicate, if_pos (by omega)]
        have hst := (hown.stored j (.int .u8 (n / 2 ^ (8 * j) % 256))).1
        rw [put_step n k j hn hlt] at hst
        go_wp2
        exact ⟨⟨j + 1, by omega, by go_num, hst, hb.setCell (Nat.le_refl _) _⟩, by simp [intOf]; omega⟩
      · obtain rfl : j = k := by omega
        have hl := Oct.le_length j n.toNat
        rw [Nat.sub_self, List.replicate_zero, List.append_nil] at hown
        have hcv := conv_own (src := 152) (dst := 9) Tryz.underlying152 Tryz.underlying5 Tryz.underlying9 (l := Oct.le j n.toNat) (by rw [hl]; exact hown)
        clear hl
        go_wp2
        go_ret2
        exact HF.out _ hb

/-- octet.Put, whatever it is given. -/
theorem put_any (n wd : Int) (w : World) (hn : n ≤ 9223372036854775807) : Calls Tryz.prog 128 #[.int .i64 n, .int .i64 wd] w (PutSays n wd w) := by
  by_cases h : wd < 1 ∨ 8 < wd
  · exact put_arg n wd w h
  · by_cases h3 : n < 0
    · exact put_neg n wd w (by omega) (by omega) h3
    · obtain ⟨k, rfl⟩ := Int.eq_ofNat_of_zero_le (show 0 ≤ wd by omega)
      by_cases hb : (256 : Int) ^ k ≤ n
      · refine put_big n k w (by omega) ?_ (by omega) hb
        rcases Nat.lt_or_ge k 8 with h8 | h8
        · exact h8
        · obtain rfl : k = 8 := by omega
          omega
      · exact put_good n k w (by omega) (by omega) (by omega) (by omega)
end Go.Proofs.YtfibaopngpfmjaaGreatDoor
