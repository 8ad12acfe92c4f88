/- Numbers and texts as bytes, the product's and the reference's. Conditions: those that each theorem names. -/
import Derived.Test.YtfibaopngpfmjaaGreatDoorRzA1
set_option linter.unusedVariables false
set_option maxRecDepth 20000
set_option maxHeartbeats 800000
namespace Go.Proofs.YtfibaopngpfmjaaGreatDoor
open Go.RowKit
theorem info5 : (Tryz.prog.info? 5).map (fun i => (i.zero, i.size, i.bytes)) = some (some (.int .u8 0), 1, 1) := by kernel_rfl

def PutSays (n wd : Int) (w : World) (e : Ending) (w' : World) : Prop :=
 e = .returned (.tuple #[.string (T (Oct.putS n wd)), .int .i64 (Oct.putE n wd)]) ∧ Below w.heap.size w w'

theorem put_says {n wd E : Int} {w w' : World} (h : Oct.putE n wd = E) (hE : E ≠ 0) (hb : Below w.heap.size w w') :
  PutSays n wd w (.returned (.tuple #[.string (T []), .int .i64 E])) w' := by
 unfold PutSays Oct.putS
 rw [h, if_neg hE]; exact ⟨rfl, hb⟩

theorem pow_bits (k : Nat) : (256 : Int) ^ k = 2 ^ (8 * k) := by rw [show (256 : Int) = 2 ^ 8 from rfl, ← Int.pow_mul]

theorem put_ok (n : Int) (k : Nat) (w w' : World) (hk : 1 ≤ k) (hk2 : k ≤ 8) (hn : 0 ≤ n) (hf : n < 256 ^ k) (hb : Below w.heap.size w w') :
  PutSays n k w (.returned (.tuple #[.string (T (Oct.le k n.toNat)), .int .i64 0])) w' := by
 have hE : Oct.putE n k = 0 := by
  unfold Oct.putE
  rw [if_neg (by omega), if_neg]
  rw [Int.toNat_natCast]; omega
 unfold PutSays Oct.putS
 rw [hE, if_pos rfl]; exact ⟨rfl, hb⟩

theorem put_arg (n wd : Int) (w : World) (hw : wd < 1 ∨ 8 < wd) :
  Calls Tryz.prog 128 #[.int .i64 n, .int .i64 wd] w (PutSays n wd w) := by
 have hE : Oct.putE n wd = 1 := by unfold Oct.putE; rw [if_pos hw]
 have HF := lh (put_says hE (by decide) (Below.refl _ w)); clear hE
 by_cases h : wd < 1
 ·go_enter Tryz.func128, Tryz.ntmps128
  go_wp2
  go_ret2
  exact HF.out
 ·have h2 : 8 < wd := by omega
  clear hw
  go_enter Tryz.func128, Tryz.ntmps128
  go_wp2
  go_ret2
  exact HF.out

theorem put_neg (n wd : Int) (w : World) (h1 : 1 ≤ wd) (h2 : wd ≤ 8) (h3 : n < 0) :
  Calls Tryz.prog 128 #[.int .i64 n, .int .i64 wd] w (PutSays n wd w) := by
 have hE : Oct.putE n wd = 5 := by unfold Oct.putE; rw [if_neg (by omega), if_pos (.inl h3)]
 have HF := lh (put_says hE (by decide) (Below.refl _ w)); clear hE
 go_enter Tryz.func128, Tryz.ntmps128
 go_wp2
 go_ret2
 exact HF.out

theorem div_pos_iff (n : Int) (k : Nat) (hn : 0 ≤ n) : 0 < n / 2 ^ (8 * k) ↔ (256 : Int) ^ k ≤ n := by
 rw [pow_bits]
 have hp : (0 : Int) < 2 ^ (8 * k) := Int.pow_pos (by decide)
 constructor
 ·intro h
  have := (Int.le_ediv_iff_mul_le (a := 1) (b := n) hp).1 (by omega)
  omega
 ·intro h
  have := (Int.le_ediv_iff_mul_le (a := 1) (b := n) hp).2 (by omega)
  omega

theorem put_big (n : Int) (k : Nat) (w : World) (h1 : 1 ≤ k) (h2 : k < 8) (h3 : 0 ≤ n) (h4 : (256 : Int) ^ k ≤ n) :
  Calls Tryz.prog 128 #[.int .i64 n, .int .i64 k] w (PutSays n k w) := by
 have hE : Oct.putE n k = 5 := by unfold Oct.putE; rw [if_neg (by omega), if_pos (.inr (by rw [Int.toNat_natCast]; exact h4))]
 have HF := lh (put_says hE (by decide) (Below.refl _ w)); clear hE
 have hd : decide (0 < n / 2 ^ (8 * k)) = true := by rw [decide_eq_true_eq, div_pos_iff n k h3]; exact h4
 have h5 : (1 : Int) ≤ k ∧ (k : Int) < 8 := by omega
 clear h4
 go_enter Tryz.func128, Tryz.ntmps128
 go_wp2
 go_ret2
 exact HF.out

theorem put_step (n : Int) (k j : Nat) (hn : 0 ≤ n) (h : j < k) :
  (bys (Oct.le j n.toNat) ++ List.replicate (k - j) (Value.int .u8 0)).set j (.int .u8 (n / 2 ^ (8 * j) % 256)) = bys (Oct.le (j + 1) n.toNat) ++ List.replicate (k - (j + 1)) (Value.int .u8 0) := by
 have e1 : k - j = (k - (j + 1)) + 1 := by omega
 rw [e1, List.replicate_succ, List.set_append_right _ _ (by rw [bys_length, Oct.le_length]; omega), bys_length, Oct.le_length, Nat.sub_self, List.set_cons_zero, Oct.le_snoc, bys_append, List.append_assoc]
 congr 1
 simp only [bys, List.map_cons, List.map_nil, List.cons_append, List.nil_append, List.cons.injEq, and_true, Value.int.injEq, true_and]
 obtain ⟨m, rfl⟩ := Int.eq_ofNat_of_zero_le hn
 have e2 : (256 : Nat) ^ j = 2 ^ (8 * j) := by rw [show (256 : Nat) = 2 ^ 8 from rfl, ← Nat.pow_mul]
 have e3 : ∀ x : Nat, (UInt8.ofNat x).toNat = x % 256 := fun x => by simp
 rw [Int.toNat_natCast, e3, e2]
 rfl
theorem put_good (n : Int) (k : Nat) (w : World) (hw : 1 ≤ k) (hw2 : k ≤ 8) (hn : 0 ≤ n) (hf : n < 256 ^ k) :
  Calls Tryz.prog 128 #[.int .i64 n, .int .i64 (k : Int)] w (PutSays n k w) := by
 obtain ⟨i0, hi, hz0, hz1, hz2⟩ := info_parts info5
 have h1 : (1 : Int) ≤ k ∧ (k : Int) ≤ 8 := by omega
 have HF := lh (fun w' => put_ok n k w w' hw hw2 hn hf)
 have hd : decide (0 < n / 2 ^ (8 * k)) = false := by rw [decide_eq_false_iff_not, div_pos_iff n k hn]; omega
 clear hf
 by_cases h8 : (k : Int) < 8
 all_goals
  go_enter Tryz.func128, Tryz.ntmps128
  go_wp2_with (at_make; refine wpList_make_full _ rfl _ _ 152 rfl w.heap.size 5 i0 (.int .u8 0) 1 Tryz.underlying152 hi hz0 hz1 _ _ _ _ k rfl rfl rfl rfl ?b1 ?b2 ?b3 ?_)
  case b1 => first | (rw [hz2]; omega) | omega
  case b2 => unfold maxLen; omega
  try (case b3 => omega)
  intro w1 hown hg
  go_wp2
  go_loopw [31] (fun i wr => ∃ j : Nat, j ≤ k ∧ i = .int .i64 j ∧ wr.ownsRow w.heap.size 5 1 (.slice (some ⟨w.heap.size, 0, none⟩) k k) k (bys (Oct.le j n.toNat) ++ List.replicate (k - j) (.int .u8 0)) ∧ Below w.heap.size w wr) (fun i _ => k - (intOf i).toNat)
  case atStart =>
   refine ⟨0, Nat.zero_le _, rfl, ?_, (Below.refl _ _).grown hg (Nat.le_refl _) (by simp)⟩
   rw [toList_madeCells_one] at hown
   simpa [Oct.le, bys] using hown
  case round =>
   obtain ⟨j, hj, rfl, hown, hb⟩ := hrel
   by_cases hlt : j < k
   ·have hfz := hown.frozenAt j
    have hc : wr.cell? ⟨w.heap.size, j, none⟩ = some (.int .u8 0) := by
     rw [hown.cellAt j (by omega), List.getElem?_append_right (by rw [bys_length, Oct.le_length]; omega), bys_length, Oct.le_length, Nat.sub_self, List.getElem?_replicate, if_pos (by omega)]
    have hst := (hown.stored j (.int .u8 (n / 2 ^ (8 * j) % 256))).1
    rw [put_step n k j hn hlt] at hst
    go_wp2
    exact ⟨⟨j + 1, by omega, by go_num, hst, hb.setCell (Nat.le_refl _) _⟩, by simp [intOf]; omega⟩
   ·obtain rfl : j = k := by omega
    have hl := Oct.le_length j n.toNat
    rw [Nat.sub_self, List.replicate_zero, List.append_nil] at hown
    have hcv := conv_own (src := 152) (dst := 9) Tryz.underlying152 Tryz.underlying5 Tryz.underlying9 (l := Oct.le j n.toNat) (by rw [hl]; exact hown)
    clear hl
    go_wp2
    go_ret2
    exact HF.out _ hb

/-- octet.Put, whatever it is given. -/
theorem put_any (n wd : Int) (w : World) (hn : n ≤ 9223372036854775807) : Calls Tryz.prog 128 #[.int .i64 n, .int .i64 wd] w (PutSays n wd w) := by
 by_cases h : wd < 1 ∨ 8 < wd
 ·exact put_arg n wd w h
 ·by_cases h3 : n < 0
  ·exact put_neg n wd w (by omega) (by omega) h3
  ·obtain ⟨k, rfl⟩ := Int.eq_ofNat_of_zero_le (show 0 ≤ wd by omega)
   by_cases hb : (256 : Int) ^ k ≤ n
   ·refine put_big n k w (by omega) ?_ (by omega) hb
    rcases Nat.lt_or_ge k 8 with h8 | h8
    ·exact h8
    ·obtain rfl : k = 8 := by omega
     omega
   ·exact put_good n k w (by omega) (by omega) (by omega) (by omega)

namespace Oct
theorem part_length (s : List UInt8) (at_ k : Nat) (h : at_ + k ≤ s.length) : (part s at_ k).length = k := by
 simp [part]; omega

theorem part_drop (s : List UInt8) (at_ k m : Nat) (h : at_ + k ≤ s.length) (h1 : 1 ≤ m) (h2 : m ≤ k) (hb : at_ + (m - 1) < s.length) :
  leVal ((part s at_ k).drop (m - 1)) = s[at_ + (m - 1)].toNat + 256 * leVal ((part s at_ k).drop m) := by
 have hl := part_length s at_ k h
 have e : (part s at_ k).drop (m - 1) = (part s at_ k)[m - 1]'(by omega) :: (part s at_ k).drop m := by
  rw [List.drop_eq_getElem_cons (by omega)]
  congr 2
  omega
 rw [e, leVal]
 congr 2
 simp [part]

theorem drop_lt (s : List UInt8) (at_ k m : Nat) (h : at_ + k ≤ s.length) : leVal ((part s at_ k).drop m) < 256 ^ (k - m) := by
 have := leVal_lt ((part s at_ k).drop m)
 rwa [List.length_drop, part_length s at_ k h] at this
end Oct

theorem or_byte (L b : Nat) (hb : b < 256) (hL : L < 72057594037927936) :
  bits BinOp.or IntKind.u64 (IntKind.u64.wrap ((L : Int) * 256)) (IntKind.u64.wrap (b : Int)) = ((b + 256 * L : Nat) : Int) := by
 have e1 : IntKind.u64.wrap ((L : Int) * 256) = ((L * 256 : Nat) : Int) := by
  simp [IntKind.wrap, IntKind.bits, IntKind.signed]; omega
 have e2 : IntKind.u64.wrap (b : Int) = (b : Int) := by
  simp [IntKind.wrap, IntKind.bits, IntKind.signed]; omega
 rw [e1, e2, u64_or_nat _ _ (by omega) (by omega), nat_join 8 (L * 256) b (by omega) (by omega)]
 congr 1
 omega

def GetSays (s : ByteArray) (at_ wd : Int) (w : World) (e : Ending) (w' : World) : Prop :=
 e = .returned (.tuple #[.int .i64 (Oct.getN s.data.toList at_ wd), .int .i64 (Oct.getT s.data.toList at_ wd), .int .i64 (Oct.getE s.data.toList at_ wd)]) ∧ w = w'

theorem get_says {s : ByteArray} {at_ wd E : Int} {w : World} (h : Oct.getE s.data.toList at_ wd = E) (hE : E ≠ 0) :
  GetSays s at_ wd w (.returned (.tuple #[.int .i64 0, .int .i64 0, .int .i64 E])) w := by
 unfold GetSays Oct.getN Oct.getT
 rw [h, if_neg hE, if_neg hE]; exact ⟨rfl, rfl⟩

theorem size_list (s : ByteArray) : s.data.toList.length = s.size := by simp

theorem get_arg (s : ByteArray) (at_ wd : Int) (w : World) (hs : s.size ≤ 9223372036854775807) (h : wd < 1 ∨ 8 < wd ∨ at_ < 0 ∨ (s.size : Int) < at_) :
  Calls Tryz.prog 30 #[.string s, .int .i64 at_, .int .i64 wd] w (GetSays s at_ wd w) := by
 have hE : Oct.getE s.data.toList at_ wd = 1 := by unfold Oct.getE; rw [if_pos]; rw [size_list]; exact h
 have HF := lh (get_says (w := w) hE (by decide)); clear hE
 by_cases h1 : wd < 1
 ·go_enter Tryz.func30, Tryz.ntmps30
  go_wp2
  go_ret3
  exact HF.out
 by_cases h2 : 8 < wd
 ·go_enter Tryz.func30, Tryz.ntmps30
  go_wp2
  go_ret3
  exact HF.out
 by_cases h3 : at_ < 0
 ·go_enter Tryz.func30, Tryz.ntmps30
  go_wp2
  go_ret3
  exact HF.out
 have h4 : (s.size : Int) < at_ := by omega
 go_enter Tryz.func30, Tryz.ntmps30
 go_wp2
 go_ret3
 exact HF.out

theorem get_short (s : ByteArray) (at_ wd : Int) (w : World) (hs : s.size ≤ 9223372036854775807) (h1 : 1 ≤ wd) (h2 : wd ≤ 8) (h3 : 0 ≤ at_) (h4 : at_ ≤ s.size) (h5 : s.size - at_ < wd) :
  Calls Tryz.prog 30 #[.string s, .int .i64 at_, .int .i64 wd] w (GetSays s at_ wd w) := by
 have hE : Oct.getE s.data.toList at_ wd = 3 := by unfold Oct.getE; rw [size_list, if_neg (by omega), if_pos (by omega)]
 have HF := lh (get_says (w := w) hE (by decide)); clear hE
 go_enter Tryz.func30, Tryz.ntmps30
 go_wp2
 go_ret3
 exact HF.out

theorem get_fin (s : ByteArray) (at_ k : Nat) (w : World) (hk : 1 ≤ k) (hk2 : k ≤ 8) (h2 : at_ + k ≤ s.size) :
  GetSays s at_ k w (.returned (.tuple (if 9223372036854775807 < Oct.leVal (Oct.part s.data.toList at_ k) then #[.int .i64 0, .int .i64 0, .int .i64 5] else #[.int .i64 (Oct.leVal (Oct.part s.data.toList at_ k)), .int .i64 (at_ + k), .int .i64 0]))) w := by
 have hE : Oct.getE s.data.toList at_ k = if 9223372036854775807 < Oct.leVal (Oct.part s.data.toList at_ k) then 5 else 0 := by
  unfold Oct.getE; rw [size_list, if_neg (by omega), if_neg (by omega)]
  by_cases h : 9223372036854775807 < Oct.leVal (Oct.part s.data.toList at_ k)
  ·rw [if_pos (by omega), if_pos h]
  ·rw [if_neg (by omega), if_neg h]
 unfold GetSays Oct.getN Oct.getT
 rw [hE]
 by_cases h : 9223372036854775807 < Oct.leVal (Oct.part s.data.toList at_ k)
 ·simp [h]
 ·simp [h]

theorem get_good (s : ByteArray) (at_ k : Nat) (w : World) (hk : 1 ≤ k) (hk2 : k ≤ 8) (hs : s.size ≤ 9223372036854775807) (h2 : at_ + k ≤ s.size) :
  Calls Tryz.prog 30 #[.string s, .int .i64 at_, .int .i64 k] w (GetSays s at_ k w) := by
 have hd : decide (s.size < at_) = false := by simp; omega
 have HF := lh (get_fin s at_ k w hk hk2 h2)
 have HL := size_list s
 go_enter Tryz.func30, Tryz.ntmps30
 go_wp2
 go_loop [9, 10] (fun n i => ∃ m : Nat, m ≤ k ∧ i = .int .i64 ((m : Int) - 1) ∧ n = .int .u64 (Oct.leVal ((Oct.part s.data.toList at_ k).drop m))) (fun _ i => (intOf i + 1).toNat)
 case atStart =>
  refine ⟨k, Nat.le_refl _, rfl, ?_⟩
  rw [List.drop_of_length_le (by rw [Oct.part_length _ _ _ (by rw [size_list]; exact h2)]; exact Nat.le_refl _)]
  rfl
 case round =>
  obtain ⟨m, hm, rfl, rfl⟩ := hrel
  by_cases hm0 : 1 ≤ m
  ·have HD := lh (fun hb => Oct.part_drop s.data.toList at_ k m (by rw [size_list]; exact h2) hm0 hm hb)
   have HB := lh (Oct.drop_lt s.data.toList at_ k m (by rw [size_list]; exact h2))
   generalize (Oct.leVal ((Oct.part s.data.toList at_ k).drop m)) = L at *
   go_wp2
   go_round
   case rel =>
    refine ⟨m - 1, by omega, ?_, ?_⟩
    ·rw [show ((m - 1 : Nat) : Int) = (m : Int) - 1 from by omega]
    ·have hb : at_ + (m - 1) < s.data.toList.length := by rw [size_list]; omega
     have hB := HB.out
     have hp : 256 ^ (k - m) ≤ 256 ^ 7 := Nat.pow_le_pow_right (by omega) (by omega)
     rw [HD.out hb, ← or_byte L _ (UInt8.toNat_lt _) (by omega)]
     rfl
   case measure => simp [intOf]; omega
  ·obtain rfl : m = 0 := by omega
   rw [List.drop_zero]
   generalize hL : (Oct.leVal (Oct.part s.data.toList at_ k)) = L at *
   clear hL
   by_cases hbig : 9223372036854775807 < L
   ·have hbi : (9223372036854775807 : Int) < L := by omega
    go_wp2
    go_ret3
    have := HF.out
    rw [if_pos hbig] at this
    exact this
   ·have hbi : ¬ (9223372036854775807 : Int) < L := by omega
    go_wp2
    go_ret3
    have := HF.out
    rw [if_neg hbig] at this
    exact this

/-- octet.Get, whatever it is given. -/
theorem get_any (s : ByteArray) (at_ wd : Int) (w : World) (hs : s.size ≤ 9223372036854775807) :
  Calls Tryz.prog 30 #[.string s, .int .i64 at_, .int .i64 wd] w (GetSays s at_ wd w) := by
 by_cases h : wd < 1 ∨ 8 < wd ∨ at_ < 0 ∨ (s.size : Int) < at_
 ·exact get_arg s at_ wd w hs h
 ·by_cases h5 : s.size - at_ < wd
  ·exact get_short s at_ wd w hs (by omega) (by omega) (by omega) (by omega) h5
  ·obtain ⟨k, rfl⟩ := Int.eq_ofNat_of_zero_le (show 0 ≤ wd by omega)
   obtain ⟨a, rfl⟩ := Int.eq_ofNat_of_zero_le (show 0 ≤ at_ by omega)
   exact get_good s a k w (by omega) (by omega) hs (by omega)

theorem rvalid_no (wd : Int) (w : World) (h : wd < 1 ∨ 8 < wd) :
  Calls Tryz.prog 119 #[.int .i64 wd] w fun e w' => e = .returned (.bool false) ∧ w = w' := by
 by_cases h1 : wd < 1
 ·go_enter Tryz.func119, Tryz.ntmps119
  go_wp2
  go_ret
  exact ⟨by simp <;> omega, rfl⟩
 ·have h2 : 8 < wd := by omega
  clear h
  go_enter Tryz.func119, Tryz.ntmps119
  go_wp2
  go_ret
  exact ⟨by simp <;> omega, rfl⟩

theorem rvalid_yes (wd : Int) (w : World) (h1 : 1 ≤ wd) (h2 : wd ≤ 8) :
  Calls Tryz.prog 119 #[.int .i64 wd] w fun e w' => e = .returned (.bool true) ∧ w = w' := by
 go_enter Tryz.func119, Tryz.ntmps119
 go_wp2
 go_ret
 exact ⟨by simp <;> omega, rfl⟩

theorem add_T (w : World) (a b : List UInt8) (h : a.length + b.length ≤ 9223372036854775807) : (Op.stringOp .add (T a) (T b)).run Tryz.prog w = .ok (.string (T (a ++ b))) w := by
 rw [run_string_add_sum w _ _ (by rw [T_size, T_size]; exact h), T_append]

theorem rget_arg (s : ByteArray) (at_ wd : Int) (w : World) (hs : s.size ≤ 9223372036854775807) (h : wd < 1 ∨ 8 < wd ∨ at_ < 0 ∨ (s.size : Int) < at_) :
  Calls Tryz.prog 62 #[.string s, .int .i64 at_, .int .i64 wd] w (GetSays s at_ wd w) := by
 have hE : Oct.getE s.data.toList at_ wd = 1 := by unfold Oct.getE; rw [if_pos]; rw [size_list]; exact h
 have HF := lh (get_says (w := w) hE (by decide)); clear hE
 by_cases h1 : wd < 1 ∨ 8 < wd
 ·go_enter Tryz.func62, Tryz.ntmps62
  go_wp2_with (go_at_call 119; refine (rvalid_no _ _ h1).mono ?_; rintro e w' ⟨rfl, rfl⟩)
  go_ret3
  exact HF.out
 have h2 : 1 ≤ wd := by omega
 have h3 : wd ≤ 8 := by omega
 by_cases h4 : at_ < 0
 ·clear h h1
  go_enter Tryz.func62, Tryz.ntmps62
  go_wp2_with (go_at_call 119; refine (rvalid_yes _ _ h2 h3).mono ?_; rintro e w' ⟨rfl, rfl⟩)
  go_ret3
  exact HF.out
 have h5 : (s.size : Int) < at_ := by omega
 clear h h1
 go_enter Tryz.func62, Tryz.ntmps62
 go_wp2_with (go_at_call 119; refine (rvalid_yes _ _ h2 h3).mono ?_; rintro e w' ⟨rfl, rfl⟩)
 go_ret3
 exact HF.out

theorem rget_short (s : ByteArray) (at_ wd : Int) (w : World) (hs : s.size ≤ 9223372036854775807) (h1 : 1 ≤ wd) (h2 : wd ≤ 8) (h3 : 0 ≤ at_) (h4 : at_ ≤ s.size) (h5 : s.size - at_ < wd) :
  Calls Tryz.prog 62 #[.string s, .int .i64 at_, .int .i64 wd] w (GetSays s at_ wd w) := by
 have hE : Oct.getE s.data.toList at_ wd = 3 := by unfold Oct.getE; rw [size_list, if_neg (by omega), if_pos (by omega)]
 have HF := lh (get_says (w := w) hE (by decide)); clear hE
 go_enter Tryz.func62, Tryz.ntmps62
 go_wp2_with (go_at_call 119; refine (rvalid_yes _ _ h1 h2).mono ?_; rintro e w' ⟨rfl, rfl⟩)
 go_ret3
 exact HF.out

theorem drop_mono (s : List UInt8) (at_ k m : Nat) (h : at_ + k ≤ s.length) (h2 : m ≤ k) : 256 ^ m * Oct.leVal ((Oct.part s at_ k).drop m) ≤ Oct.leVal (Oct.part s at_ k) := by
 conv => rhs; rw [← List.take_append_drop m (Oct.part s at_ k)]
 rw [Oct.leVal_append, List.length_take, Oct.part_length s at_ k h, Nat.min_eq_left h2]
 omega

theorem rget_good (s : ByteArray) (at_ k : Nat) (w : World) (hk : 1 ≤ k) (hk2 : k ≤ 8) (hs : s.size ≤ 9223372036854775807) (h2 : at_ + k ≤ s.size) :
  Calls Tryz.prog 62 #[.string s, .int .i64 at_, .int .i64 k] w (GetSays s at_ k w) := by
 have hd : decide (s.size < at_) = false := by simp; omega
 have HF := lh (get_fin s at_ k w hk hk2 h2)
 have HL := size_list s
 have h5 : (1 : Int) ≤ k ∧ (k : Int) ≤ 8 := by omega
 go_enter Tryz.func62, Tryz.ntmps62
 go_wp2_with (go_at_call 119; refine (rvalid_yes _ _ h5.1 h5.2).mono ?_; rintro e w' ⟨rfl, rfl⟩)
 go_loop [9, 10] (fun n i => ∃ m : Nat, m ≤ k ∧ i = .int .i64 ((m : Int) - 1) ∧ n = .int .i64 (Oct.leVal ((Oct.part s.data.toList at_ k).drop m)) ∧ Oct.leVal ((Oct.part s.data.toList at_ k).drop m) ≤ 9223372036854775807) (fun _ i => (intOf i + 1).toNat)
 case atStart =>
  have e0 : (Oct.part s.data.toList at_ k).drop k = [] := List.drop_of_length_le (by rw [Oct.part_length _ _ _ (by rw [size_list]; exact h2)]; exact Nat.le_refl _)
  refine ⟨k, Nat.le_refl _, rfl, ?_, ?_⟩
  ·rw [e0]; rfl
  ·rw [e0]; decide
 case round =>
  obtain ⟨m, hm, rfl, rfl, hq⟩ := hrel
  by_cases hm0 : 1 ≤ m
  ·have HD := lh (fun hb => Oct.part_drop s.data.toList at_ k m (by rw [size_list]; exact h2) hm0 hm hb)
   have HM := lh (drop_mono s.data.toList at_ k m (by rw [size_list]; exact h2) hm)
   generalize (Oct.leVal ((Oct.part s.data.toList at_ k).drop m)) = L at *
   by_cases hb : L < 36028797018963968
   ·have hbi : (L : Int) < 36028797018963968 := by omega
    have h0 : 0 ≤ (L : Int) := by omega
    have HB := lh hb
    clear hb
    generalize hz : (L : Int) = z at *
    have HZ := lh hz
    clear hz hq
    go_wp2
    go_round
    case rel =>
     have hb' : at_ + (m - 1) < s.data.toList.length := by rw [size_list]; omega
     have e := HD.out hb'
     have hz := HZ.out
     have hb := HB.out
     subst hz
     have h256 := UInt8.toNat_lt (s.data.toList[at_ + (m - 1)])
     refine ⟨m - 1, by omega, ?_, ?_, ?_⟩
     ·rw [show ((m - 1 : Nat) : Int) = (m : Int) - 1 from by omega]
     ·rw [e]
      have : (s.data.toList[at_ + (m - 1)]) = s[at_ + (m - 1)] := rfl
      rw [this] at h256 ⊢
      have b1 : (256 * (L : Int) + (s[at_ + (m - 1)].toNat : Int)) = ((s[at_ + (m - 1)].toNat + 256 * L : Nat) : Int) := by omega
      rw [IntWalk.wrap64_in (s[at_ + (m - 1)].toNat : Int) ⟨by omega, by omega⟩, IntWalk.wrap64_in _ ⟨by omega, by omega⟩, b1]
     ·rw [e]; omega
    case measure => simp [intOf]; omega
   ·have hbi : ¬ (L : Int) < 36028797018963968 := by omega
    have HB := lh hb
    clear hb
    generalize hz : (L : Int) = z at *
    have HZ := lh hz
    clear hz hq
    go_wp2
    go_ret3
    have hbig : 9223372036854775807 < Oct.leVal (Oct.part s.data.toList at_ k) := by
     have hb := HB.out
     have := HM.out
     have hp : 256 ^ 1 ≤ 256 ^ m := Nat.pow_le_pow_right (by omega) hm0
     have h3 : 256 * L ≤ 256 ^ m * L := Nat.mul_le_mul_right _ (by simpa using hp)
     omega
    have := HF.out
    rw [if_pos hbig] at this
    exact this
  ·obtain rfl : m = 0 := by omega
   rw [List.drop_zero] at hq ⊢
   generalize hL : (Oct.leVal (Oct.part s.data.toList at_ k)) = L at *
   clear hL
   go_wp2
   go_ret3
   have := HF.out
   rw [if_neg (by omega)] at this
   exact this

/-- The reference's Get, whatever it is given. -/
theorem rget_any (s : ByteArray) (at_ wd : Int) (w : World) (hs : s.size ≤ 9223372036854775807) :
  Calls Tryz.prog 62 #[.string s, .int .i64 at_, .int .i64 wd] w (GetSays s at_ wd w) := by
 by_cases h : wd < 1 ∨ 8 < wd ∨ at_ < 0 ∨ (s.size : Int) < at_
 ·exact rget_arg s at_ wd w hs h
 ·by_cases h5 : s.size - at_ < wd
  ·exact rget_short s at_ wd w hs (by omega) (by omega) (by omega) (by omega) h5
  ·obtain ⟨k, rfl⟩ := Int.eq_ofNat_of_zero_le (show 0 ≤ wd by omega)
   obtain ⟨a, rfl⟩ := Int.eq_ofNat_of_zero_le (show 0 ≤ at_ by omega)
   exact rget_good s a k w (by omega) (by omega) hs (by omega)
def PtSays (s : ByteArray) (w : World) (e : Ending) (w' : World) : Prop :=
 e = .returned (.tuple #[.string (T (Oct.ptS s.data.toList)), .int .i64 (Oct.ptE s.data.toList)]) ∧ Below w.heap.size w w'
def GtSays (s : ByteArray) (at_ : Int) (w : World) (e : Ending) (w' : World) : Prop :=
 e = .returned (.tuple #[.string (T (Oct.gtS s.data.toList at_)), .int .i64 (Oct.gtT s.data.toList at_), .int .i64 (Oct.gtE s.data.toList at_)]) ∧ w = w'

theorem putSays_len (n : Nat) (h : n ≤ 65535) {w : World} {e : Ending} {w' : World} (hp : PutSays (n : Int) 2 w e w') :
  e = .returned (.tuple #[.string (T (Oct.le 2 n)), .int .i64 0]) ∧ Below w.heap.size w w' := by
 have hE : Oct.putE (n : Int) 2 = 0 := by unfold Oct.putE; rw [if_neg (by omega), if_neg]; simp; omega
 have hS : Oct.putS (n : Int) 2 = Oct.le 2 n := by unfold Oct.putS; rw [hE, if_pos rfl]; rfl
 obtain ⟨he, hb⟩ := hp
 rw [hE, hS] at he
 exact ⟨he, hb⟩
theorem putSays_long (n : Nat) (h : 65535 < n) {w : World} {e : Ending} {w' : World} (hp : PutSays (n : Int) 2 w e w') :
  e = .returned (.tuple #[.string (T []), .int .i64 5]) ∧ Below w.heap.size w w' := by
 have hE : Oct.putE (n : Int) 2 = 5 := by unfold Oct.putE; rw [if_neg (by omega), if_pos]; right; simp; omega
 have hS : Oct.putS (n : Int) 2 = [] := by unfold Oct.putS; rw [hE, if_neg (by decide)]
 obtain ⟨he, hb⟩ := hp
 rw [hE, hS] at he
 exact ⟨he, hb⟩
theorem pt_long {s : ByteArray} (h : 65535 < s.size) {w w' : World} (hb : Below w.heap.size w w') : PtSays s w (.returned (.tuple #[.string (T []), .int .i64 4])) w' := by
 unfold PtSays Oct.ptS Oct.ptE; rw [size_list, if_pos h, if_pos h]; exact ⟨rfl, hb⟩
theorem pt_short {s : ByteArray} (h : ¬ 65535 < s.size) {w w' : World} (hb : Below w.heap.size w w') : PtSays s w (.returned (.tuple #[.string (T (Oct.le 2 s.size) ++ s), .int .i64 0])) w' := by
 unfold PtSays Oct.ptS Oct.ptE; rw [size_list, if_neg h, if_neg h]
 conv => lhs; rw [← T_of s, T_append]
 exact ⟨rfl, hb⟩
theorem le2_add (s : ByteArray) (h : s.size ≤ 65535) (w : World) : (Op.stringOp .add (T (Oct.le 2 s.size)) s).run Tryz.prog w = .ok (.string (T (Oct.le 2 s.size) ++ s)) w :=
 run_string_add_sum w _ _ (by rw [T_size, Oct.le_length]; omega)

theorem pt_any (s : ByteArray) (w : World) (hs : s.size ≤ 9223372036854775807) : Calls Tryz.prog 227 #[.string s] w (PtSays s w) := by
 by_cases h : 65535 < s.size
 ·have hi : (65535 : Int) < s.size := by omega
  have HF := lh (pt_long h (Below.refl _ w))
  clear h
  go_enter Tryz.func227, Tryz.ntmps227
  go_wp2
  go_ret2
  exact HF.out
 ·have hi : ¬ (65535 : Int) < s.size := by omega
  have HF := lh (fun w' => pt_short h (w := w) (w' := w'))
  have hc := (put_any (s.size : Int) 2 w (by omega)).mono fun e w' hp => putSays_len s.size (by omega) hp
  have HC := lh hc
  have hadd := le2_add s (by omega)
  clear h hc
  go_enter Tryz.func227, Tryz.ntmps227
  go_wp2_with (go_at_call 128; refine HC.out.mono ?_; rintro e w' ⟨rfl, hb⟩)
  go_ret2
  exact HF.out _ hb

theorem getSays_bad {s : ByteArray} {at_ E : Int} (hE : Oct.getE s.data.toList at_ 2 = E) (h0 : E ≠ 0) {w : World} {e : Ending} {w' : World} (hp : GetSays s at_ 2 w e w') :
  e = .returned (.tuple #[.int .i64 0, .int .i64 0, .int .i64 E]) ∧ w = w' := by
 obtain ⟨he, hw⟩ := hp
 unfold Oct.getN Oct.getT at he
 rw [hE, if_neg h0, if_neg h0] at he
 exact ⟨he, hw⟩
theorem gt_bad {s : ByteArray} {at_ E : Int} (hE : Oct.getE s.data.toList at_ 2 = E) (h0 : E ≠ 0) (w : World) : GtSays s at_ w (.returned (.tuple #[.string (T []), .int .i64 0, .int .i64 E])) w := by
 have h1 : Oct.gtE s.data.toList at_ = E := by unfold Oct.gtE; rw [hE, if_pos h0]
 unfold GtSays Oct.gtS Oct.gtT
 rw [h1, if_neg h0, if_neg h0]
 exact ⟨rfl, rfl⟩
theorem getE_zero {s : List UInt8} {at_ : Int} (h : Oct.getE s at_ 2 = 0) : 0 ≤ at_ ∧ at_ + 2 ≤ s.length ∧ Oct.getT s at_ 2 = at_ + 2 ∧ 0 ≤ Oct.getN s at_ 2 ∧ Oct.getN s at_ 2 ≤ 65535 := by
 have h0 := h
 unfold Oct.getE at h
 split at h
 ·cases h
 ·rename_i h1
  split at h
  ·cases h
  ·rename_i h2
   refine ⟨by omega, by omega, by unfold Oct.getT; rw [if_pos h0], ?_⟩
   unfold Oct.getN
   rw [if_pos h0]
   have hl : (Oct.part s at_ 2).length ≤ 2 := by unfold Oct.part; rw [List.length_take]; exact Nat.min_le_left _ _
   have := Oct.leVal_lt (Oct.part s at_ 2)
   have hp : 256 ^ (Oct.part s at_ 2).length ≤ 256 ^ 2 := Nat.pow_le_pow_right (by omega) hl
   omega
theorem getSays_good {s : ByteArray} {at_ n : Int} (hE : Oct.getE s.data.toList at_ 2 = 0) (hn : Oct.getN s.data.toList at_ 2 = n) {w : World} {e : Ending} {w' : World} (hp : GetSays s at_ 2 w e w') :
  e = .returned (.tuple #[.int .i64 n, .int .i64 (at_ + 2), .int .i64 0]) ∧ w = w' := by
 obtain ⟨he, hw⟩ := hp
 rw [hE, hn, (getE_zero hE).2.2.1] at he
 exact ⟨he, hw⟩
theorem gt_short {s : ByteArray} {at_ n : Int} (hE : Oct.getE s.data.toList at_ 2 = 0) (hn : Oct.getN s.data.toList at_ 2 = n) (hs : (s.size : Int) - (at_ + 2) < n) (w : World) :
  GtSays s at_ w (.returned (.tuple #[.string (T []), .int .i64 0, .int .i64 3])) w := by
 have h1 : Oct.gtE s.data.toList at_ = 3 := by unfold Oct.gtE; rw [hE, if_neg (by simp), (getE_zero hE).2.2.1, hn, size_list, if_pos hs]
 unfold GtSays Oct.gtS Oct.gtT
 rw [h1]
 exact ⟨rfl, rfl⟩
theorem extract_T (s : ByteArray) (a b : Nat) : s.extract a b = T ((s.data.toList.drop a).take (b - a)) := by
 apply ByteArray.ext
 apply Array.ext'
 simp
theorem gt_good {s : ByteArray} {a n : Nat} (hE : Oct.getE s.data.toList a 2 = 0) (hn : Oct.getN s.data.toList a 2 = (n : Int)) (hs : ¬ (s.size : Int) - (a + 2) < n) (w : World) :
  GtSays s a w (.returned (.tuple #[.string (s.extract (a + 2) (a + 2 + n)), .int .i64 ((a : Int) + 2 + n), .int .i64 0])) w := by
 have h1 : Oct.gtE s.data.toList a = 0 := by unfold Oct.gtE; rw [hE, if_neg (by simp), (getE_zero hE).2.2.1, hn, size_list, if_neg hs]
 unfold GtSays Oct.gtS Oct.gtT
 rw [h1, (getE_zero hE).2.2.1, hn, if_pos rfl, if_pos rfl, extract_T]
 refine ⟨?_, rfl⟩
 have e1 : ((a : Int) + 2).toNat = a + 2 := by omega
 rw [e1, Int.toNat_natCast, Nat.add_sub_cancel_left]


theorem gt_any (s : ByteArray) (at_ : Int) (w : World) (hs : s.size ≤ 9223372036854775807) : Calls Tryz.prog 129 #[.string s, .int .i64 at_] w (GtSays s at_ w) := by
 by_cases hE : Oct.getE s.data.toList at_ 2 = 0
 ·have hz := getE_zero hE
  obtain ⟨a, rfl⟩ := Int.eq_ofNat_of_zero_le hz.1
  obtain ⟨n, hn⟩ := Int.eq_ofNat_of_zero_le hz.2.2.2.1
  have hn2 : (n : Int) ≤ 65535 := by have := hz.2.2.2.2; omega
  have ha : (a : Int) + 2 ≤ s.size := by have := hz.2.1; rw [size_list] at this; exact this
  have HC := lh ((get_any s a 2 w hs).mono fun e w' hp => getSays_good hE hn hp)
  clear hz
  by_cases hsh : (s.size : Int) - (a + 2) < n
  ·have HF := lh (gt_short hE hn hsh w)
   clear hE hn
   go_enter Tryz.func129, Tryz.ntmps129
   go_wp2_with (go_at_call 30; refine HC.out.mono ?_; rintro e w' ⟨rfl, rfl⟩)
   go_ret3
   exact HF.out
  ·have HF := lh (gt_good hE hn hsh w)
   clear hE hn
   have h3 : a + 2 + n ≤ s.size := by omega
   go_enter Tryz.func129, Tryz.ntmps129
   go_wp2_with (go_at_call 30; refine HC.out.mono ?_; rintro e w' ⟨rfl, rfl⟩)
   go_ret3
   exact HF.out
 ·obtain ⟨E, hEE⟩ : ∃ E, Oct.getE s.data.toList at_ 2 = E := ⟨_, rfl⟩
  have h0 : E ≠ 0 := by rw [← hEE]; exact hE
  have HC := lh ((get_any s at_ 2 w hs).mono fun e w' hp => getSays_bad hEE h0 hp)
  have HF := lh (gt_bad hEE h0 w)
  have hb : (E != 0) = true := by rw [bne_iff_ne]; exact h0
  clear hE hEE h0
  go_enter Tryz.func129, Tryz.ntmps129
  go_wp2_with (go_at_call 30; refine HC.out.mono ?_; rintro e w' ⟨rfl, rfl⟩)
  go_ret3
  exact HF.out

theorem rgt_any (s : ByteArray) (at_ : Int) (w : World) (hs : s.size ≤ 9223372036854775807) : Calls Tryz.prog 223 #[.string s, .int .i64 at_] w (GtSays s at_ w) := by
 by_cases hE : Oct.getE s.data.toList at_ 2 = 0
 ·have hz := getE_zero hE
  obtain ⟨a, rfl⟩ := Int.eq_ofNat_of_zero_le hz.1
  obtain ⟨n, hn⟩ := Int.eq_ofNat_of_zero_le hz.2.2.2.1
  have hn2 : (n : Int) ≤ 65535 := by have := hz.2.2.2.2; omega
  have ha : (a : Int) + 2 ≤ s.size := by have := hz.2.1; rw [size_list] at this; exact this
  have HC := lh ((rget_any s a 2 w hs).mono fun e w' hp => getSays_good hE hn hp)
  clear hz
  by_cases hsh : (s.size : Int) - (a + 2) < n
  ·have HF := lh (gt_short hE hn hsh w)
   clear hE hn
   go_enter Tryz.func223, Tryz.ntmps223
   go_wp2_with (go_at_call 62; refine HC.out.mono ?_; rintro e w' ⟨rfl, rfl⟩)
   go_ret3
   exact HF.out
  ·have HF := lh (gt_good hE hn hsh w)
   clear hE hn
   have h3 : a + 2 + n ≤ s.size := by omega
   go_enter Tryz.func223, Tryz.ntmps223
   go_wp2_with (go_at_call 62; refine HC.out.mono ?_; rintro e w' ⟨rfl, rfl⟩)
   go_ret3
   exact HF.out
 ·obtain ⟨E, hEE⟩ : ∃ E, Oct.getE s.data.toList at_ 2 = E := ⟨_, rfl⟩
  have h0 : E ≠ 0 := by rw [← hEE]; exact hE
  have HC := lh ((rget_any s at_ 2 w hs).mono fun e w' hp => getSays_bad hEE h0 hp)
  have HF := lh (gt_bad hEE h0 w)
  have hb : (E != 0) = true := by rw [bne_iff_ne]; exact h0
  clear hE hEE h0
  go_enter Tryz.func223, Tryz.ntmps223
  go_wp2_with (go_at_call 62; refine HC.out.mono ?_; rintro e w' ⟨rfl, rfl⟩)
  go_ret3
  exact HF.out
end Go.Proofs.YtfibaopngpfmjaaGreatDoor
