/- What the reference's valid, Put and Get return: the same as octet's. Conditions: the numbers are ints, the text is no longer than an int can say. -/
import Derived.Test.YtpcieookddpkhaaDoorOctPut
import Derived.Test.YtpcieookddpkhaaDoorOctGet
set_option linter.unusedVariables false
namespace Go.Proofs.YtpcieookddpkhaaDoor
open Go.RowKit

set_option maxHeartbeats 400000 in
theorem rvalid_no (wd : Int) (w : World) (h : wd < 1 ∨ 8 < wd) :
    Calls Tryd.prog 57 #[.int .i64 wd] w fun e w' => e = .returned (.bool false) ∧ w = w' := by
  by_cases h1 : wd < 1
  · go_enter Tryd.func57, Tryd.ntmps57
    go_wp2
    go_ret
    exact ⟨by simp <;> omega, rfl⟩
  · have h2 : 8 < wd := by omega
    clear h
    go_enter Tryd.func57, Tryd.ntmps57
    go_wp2
    go_ret
    exact ⟨by simp <;> omega, rfl⟩

theorem rvalid_yes (wd : Int) (w : World) (h1 : 1 ≤ wd) (h2 : wd ≤ 8) :
    Calls Tryd.prog 57 #[.int .i64 wd] w fun e w' => e = .returned (.bool true) ∧ w = w' := by
  go_enter Tryd.func57, Tryd.ntmps57
  go_wp2
  go_ret
  exact ⟨by simp <;> omega, rfl⟩

set_option maxHeartbeats 400000 in
theorem rput_arg (n wd : Int) (w : World) (hw : wd < 1 ∨ 8 < wd) :
    Calls Tryd.prog 47 #[.int .i64 n, .int .i64 wd] w (PutSays n wd w) := by
  have hE : Oct.putE n wd = 1 := by unfold Oct.putE; rw [if_pos hw]
  have HF := Lib.hid (put_says hE (by decide) (Below.refl _ w)); clear hE
  go_enter Tryd.func47, Tryd.ntmps47
  go_wp2_with (go_at_call 57; refine (rvalid_no _ _ hw).mono ?_; rintro e w' ⟨rfl, rfl⟩)
  go_ret2
  exact HF.out

/-- 'string([]byte{b})' -/
theorem conv_one {src dst e : TypeId} (w : World) (b : Int) (h0 : 0 ≤ b) (hb : b < 256) (hs : Tryd.prog.underlying src = some (.slice e)) (he : Tryd.prog.underlying e = some (.int .u8)) (hd : Tryd.prog.underlying dst = some .string) :
    (convert src dst (.slice (some ⟨w.heap.size, 0, none⟩) 1 1)).run Tryd.prog (w.alloc (.cells #[.int .u8 b] e)) = .ok (.string (T [UInt8.ofNat b.toNat])) (w.alloc (.cells #[.int .u8 b] e)) := by
  refine run_convert_bytes_back (w.alloc (.cells #[.int .u8 b] e)) src dst e ⟨w.heap.size, 0, none⟩ 1 [UInt8.ofNat b.toNat] hs he hd fun j hj => ?_
  obtain rfl : j = 0 := by simp at hj; exact hj
  have : ((UInt8.ofNat b.toNat).toNat : Int) = b := by simp; omega
  simp only [Addr.add, if_pos]
  rw [World.cell?_alloc_at _ _ _ _ rfl]
  simp only [List.getElem_cons_zero, this]
  rfl

theorem add_T (w : World) (a b : List UInt8) (h : a.length + b.length ≤ 9223372036854775807) : (Op.stringOp .add (T a) (T b)).run Tryd.prog w = .ok (.string (T (a ++ b))) w := by
  rw [run_string_add_sum w _ _ (by rw [T_size, T_size]; exact h), T_append]

set_option maxHeartbeats 400000 in
theorem rput_go (n : Int) (k : Nat) (w : World) (h1 : 1 ≤ k) (h2 : k ≤ 8) (h3 : 0 ≤ n) (h4 : n ≤ 9223372036854775807) :
    Calls Tryd.prog 47 #[.int .i64 n, .int .i64 k] w (PutSays n k w) := by
  have h5 : (1 : Int) ≤ k ∧ (k : Int) ≤ 8 := by omega
  obtain ⟨N, rfl⟩ := Int.eq_ofNat_of_zero_le h3
  go_enter Tryd.func47, Tryd.ntmps47
  go_wp2_with (go_at_call 57; refine (rvalid_yes _ _ h5.1 h5.2).mono ?_; rintro e w' ⟨rfl, rfl⟩)
  go_loopw [6, 7, 8] (fun s l i wr => ∃ j : Nat, j ≤ k ∧ i = .int .i64 j ∧ s = .string (T (Oct.le j N)) ∧ l = .int .i64 ((N / 256 ^ j : Nat) : Int) ∧ Below w.heap.size w wr) (fun _ _ i _ => k - (intOf i).toNat)
  case atStart => exact ⟨0, Nat.zero_le _, rfl, rfl, by simp, Below.refl _ _⟩
  case round =>
    obtain ⟨j, hj, rfl, rfl, rfl, hb⟩ := hrel
    have hM : N / 256 ^ j ≤ N := Nat.div_le_self _ _
    generalize hL : N / 256 ^ j = L at *
    have HL := Lib.hid hL; clear hL
    by_cases hlt : j < k
    · have hcv := conv_one (src := 58) (dst := 9) wr ((L : Int) % 256) (by omega) (by omega) Tryd.underlying58 Tryd.underlying5 Tryd.underlying9
      rw [show ((L : Int) % 256).toNat = L % 256 from by omega] at hcv
      have hadd := fun w : World => add_T w (Oct.le j N) [UInt8.ofNat (L % 256)] (by rw [Oct.le_length]; simp; omega)
      go_wp2
      go_roundw
      case rel =>
        refine ⟨j + 1, by omega, by go_num, ?_, ?_, hb.alloc hb.size _⟩
        · have e1 : UInt8.ofNat (L % 256) = UInt8.ofNat L := by apply UInt8.toNat_inj.1; simp
          rw [Oct.le_snoc, HL.out, e1]
        · have := HL.out
          rw [Nat.pow_succ, ← Nat.div_div_eq_div_mul, this]
          rfl
      case measure => simp [intOf]; omega
    · obtain rfl : j = k := by omega
      by_cases h0 : L = 0
      · have HF := Lib.hid (fun hf => put_ok (N : Int) j w wr h1 h2 (by omega) hf hb)
        subst h0
        go_wp2
        go_ret2
        refine HF.out ?_
        have hp : 0 < 256 ^ j := Nat.pow_pos (by decide)
        have := (Nat.div_eq_zero_iff.1 HL.out).resolve_left (by omega)
        have h' : ((N : Nat) : Int) < ((256 ^ j : Nat) : Int) := Int.ofNat_lt.2 this
        rw [Int.natCast_pow] at h'
        exact h'
      · have hL0 : ((L : Int) == 0) = false := beq_eq_false_iff_ne.2 (by omega)
        have hE : Oct.putE (N : Int) j = 5 := by
          have hp : 0 < 256 ^ j := Nat.pow_pos (by decide)
          have h := HL.out
          have this : 256 ^ j ≤ N := by
            rcases Nat.lt_or_ge N (256 ^ j) with hlt | hge
            · rw [Nat.div_eq_of_lt hlt] at h; omega
            · exact hge
          have h' : ((256 ^ j : Nat) : Int) ≤ ((N : Nat) : Int) := Int.ofNat_le.2 this
          rw [Int.natCast_pow] at h'
          unfold Oct.putE
          rw [if_neg (by omega), if_pos (.inr (by rw [Int.toNat_natCast]; exact h'))]
        have HF := Lib.hid (put_says hE (by decide) hb); clear hE
        go_wp2
        go_ret2
        exact HF.out

set_option maxHeartbeats 400000 in
theorem rput_neg (n wd : Int) (w : World) (h1 : 1 ≤ wd) (h2 : wd ≤ 8) (h3 : n < 0) :
    Calls Tryd.prog 47 #[.int .i64 n, .int .i64 wd] w (PutSays n wd w) := by
  have hE : Oct.putE n wd = 5 := by unfold Oct.putE; rw [if_neg (by omega), if_pos (.inl h3)]
  have HF := Lib.hid (put_says hE (by decide) (Below.refl _ w)); clear hE
  have hn0 : (n == 0) = false := by simp; omega
  go_enter Tryd.func47, Tryd.ntmps47
  go_wp2_with (go_at_call 57; refine (rvalid_yes _ _ h1 h2).mono ?_; rintro e w' ⟨rfl, rfl⟩)
  refine wp_loop_rounds 1 ?_
  rw [rounds_succ]
  go_wp2
  go_ret2
  exact HF.out

/-- The reference's Put, whatever it is given. -/
theorem rput_any (n wd : Int) (w : World) (hn : n ≤ 9223372036854775807) : Calls Tryd.prog 47 #[.int .i64 n, .int .i64 wd] w (PutSays n wd w) := by
  by_cases h : wd < 1 ∨ 8 < wd
  · exact rput_arg n wd w h
  · by_cases h3 : n < 0
    · exact rput_neg n wd w (by omega) (by omega) h3
    · obtain ⟨k, rfl⟩ := Int.eq_ofNat_of_zero_le (show 0 ≤ wd by omega)
      exact rput_go n k w (by omega) (by omega) (by omega) hn

set_option maxHeartbeats 400000 in
theorem rget_arg (s : ByteArray) (at_ wd : Int) (w : World) (hs : s.size ≤ 9223372036854775807) (h : wd < 1 ∨ 8 < wd ∨ at_ < 0 ∨ (s.size : Int) < at_) :
    Calls Tryd.prog 51 #[.string s, .int .i64 at_, .int .i64 wd] w (GetSays s at_ wd w) := by
  have hE : Oct.getE s.data.toList at_ wd = 1 := by unfold Oct.getE; rw [if_pos]; rw [size_list]; exact h
  have HF := Lib.hid (get_says (w := w) hE (by decide)); clear hE
  by_cases h1 : wd < 1 ∨ 8 < wd
  · go_enter Tryd.func51, Tryd.ntmps51
    go_wp2_with (go_at_call 57; refine (rvalid_no _ _ h1).mono ?_; rintro e w' ⟨rfl, rfl⟩)
    go_ret3
    exact HF.out
  have h2 : 1 ≤ wd := by omega
  have h3 : wd ≤ 8 := by omega
  by_cases h4 : at_ < 0
  · clear h h1
    go_enter Tryd.func51, Tryd.ntmps51
    go_wp2_with (go_at_call 57; refine (rvalid_yes _ _ h2 h3).mono ?_; rintro e w' ⟨rfl, rfl⟩)
    go_ret3
    exact HF.out
  have h5 : (s.size : Int) < at_ := by omega
  clear h h1
  go_enter Tryd.func51, Tryd.ntmps51
  go_wp2_with (go_at_call 57; refine (rvalid_yes _ _ h2 h3).mono ?_; rintro e w' ⟨rfl, rfl⟩)
  go_ret3
  exact HF.out

set_option maxHeartbeats 400000 in
theorem rget_short (s : ByteArray) (at_ wd : Int) (w : World) (hs : s.size ≤ 9223372036854775807) (h1 : 1 ≤ wd) (h2 : wd ≤ 8) (h3 : 0 ≤ at_) (h4 : at_ ≤ s.size) (h5 : s.size - at_ < wd) :
    Calls Tryd.prog 51 #[.string s, .int .i64 at_, .int .i64 wd] w (GetSays s at_ wd w) := by
  have hE : Oct.getE s.data.toList at_ wd = 3 := by unfold Oct.getE; rw [size_list, if_neg (by omega), if_pos (by omega)]
  have HF := Lib.hid (get_says (w := w) hE (by decide)); clear hE
  go_enter Tryd.func51, Tryd.ntmps51
  go_wp2_with (go_at_call 57; refine (rvalid_yes _ _ h1 h2).mono ?_; rintro e w' ⟨rfl, rfl⟩)
  go_ret3
  exact HF.out

theorem drop_mono (s : List UInt8) (at_ k m : Nat) (h : at_ + k ≤ s.length) (h2 : m ≤ k) : 256 ^ m * Oct.leVal ((Oct.part s at_ k).drop m) ≤ Oct.leVal (Oct.part s at_ k) := by
  conv => rhs; rw [← List.take_append_drop m (Oct.part s at_ k)]
  rw [Oct.leVal_append, List.length_take, Oct.part_length s at_ k h, Nat.min_eq_left h2]
  omega

set_option maxHeartbeats 800000 in
theorem rget_good (s : ByteArray) (at_ k : Nat) (w : World) (hk : 1 ≤ k) (hk2 : k ≤ 8) (hs : s.size ≤ 9223372036854775807) (h2 : at_ + k ≤ s.size) :
    Calls Tryd.prog 51 #[.string s, .int .i64 at_, .int .i64 k] w (GetSays s at_ k w) := by
  have hd : decide (s.size < at_) = false := by simp; omega
  have HF := Lib.hid (get_fin s at_ k w hk hk2 h2)
  have HL := size_list s
  have h5 : (1 : Int) ≤ k ∧ (k : Int) ≤ 8 := by omega
  go_enter Tryd.func51, Tryd.ntmps51
  go_wp2_with (go_at_call 57; refine (rvalid_yes _ _ h5.1 h5.2).mono ?_; rintro e w' ⟨rfl, rfl⟩)
  go_loop [9, 10] (fun n i => ∃ m : Nat, m ≤ k ∧ i = .int .i64 ((m : Int) - 1) ∧ n = .int .i64 (Oct.leVal ((Oct.part s.data.toList at_ k).drop m)) ∧ Oct.leVal ((Oct.part s.data.toList at_ k).drop m) ≤ 9223372036854775807) (fun _ i => (intOf i + 1).toNat)
  case atStart =>
    have e0 : (Oct.part s.data.toList at_ k).drop k = [] := List.drop_of_length_le (by rw [Oct.part_length _ _ _ (by rw [size_list]; exact h2)]; exact Nat.le_refl _)
    refine ⟨k, Nat.le_refl _, rfl, ?_, ?_⟩
    · rw [e0]; rfl
    · rw [e0]; decide
  case round =>
    obtain ⟨m, hm, rfl, rfl, hq⟩ := hrel
    by_cases hm0 : 1 ≤ m
    · have HD := Lib.hid (fun hb => Oct.part_drop s.data.toList at_ k m (by rw [size_list]; exact h2) hm0 hm hb)
      have HM := Lib.hid (drop_mono s.data.toList at_ k m (by rw [size_list]; exact h2) hm)
      generalize (Oct.leVal ((Oct.part s.data.toList at_ k).drop m)) = L at *
      by_cases hb : L < 36028797018963968
      · have hbi : (L : Int) < 36028797018963968 := by omega
        have h0 : 0 ≤ (L : Int) := by omega
        have HB := Lib.hid hb
        clear hb
        generalize hz : (L : Int) = z at *
        have HZ := Lib.hid hz
        clear hz hq
        go_wp2
        go_round
        case rel =>
          have hb' : at_ + (m - 1) < s.data.toList.length := by rw [size_list]; omega
          have e := HD.out hb'
          have hz := HZ.out
          have hb := HB.out
          subst hz
          have h256 := UInt8.toNat_lt (s.data.toList[at_ + (m - 1)])
          refine ⟨m - 1, by omega, ?_, ?_, ?_⟩
          · rw [show ((m - 1 : Nat) : Int) = (m : Int) - 1 from by omega]
          · rw [e]
            have : (s.data.toList[at_ + (m - 1)]) = s[at_ + (m - 1)] := rfl
            rw [this] at h256 ⊢
            have b1 : (256 * (L : Int) + (s[at_ + (m - 1)].toNat : Int)) = ((s[at_ + (m - 1)].toNat + 256 * L : Nat) : Int) := by omega
            rw [IntWalk.wrap64_in (s[at_ + (m - 1)].toNat : Int) ⟨by omega, by omega⟩, IntWalk.wrap64_in _ ⟨by omega, by omega⟩, b1]
          · rw [e]; omega
        case measure => simp [intOf]; omega
      · have hbi : ¬ (L : Int) < 36028797018963968 := by omega
        have HB := Lib.hid hb
        clear hb
        generalize hz : (L : Int) = z at *
        have HZ := Lib.hid hz
        clear hz hq
        go_wp2
        go_ret3
        have hbig : 9223372036854775807 < Oct.leVal (Oct.part s.data.toList at_ k) := by
          have hb := HB.out
          have := HM.out
          have hp : 256 ^ 1 ≤ 256 ^ m := Nat.pow_le_pow_right (by omega) hm0
          have h3 : 256 * L ≤ 256 ^ m * L := Nat.mul_le_mul_right _ (by simpa using hp)
          omega
        have := HF.out
        rw [if_pos hbig] at this
        exact this
    · obtain rfl : m = 0 := by omega
      rw [List.drop_zero] at hq ⊢
      generalize hL : (Oct.leVal (Oct.part s.data.toList at_ k)) = L at *
      clear hL
      go_wp2
      go_ret3
      have := HF.out
      rw [if_neg (by omega)] at this
      exact this

/-- The reference's Get, whatever it is given. -/
theorem rget_any (s : ByteArray) (at_ wd : Int) (w : World) (hs : s.size ≤ 9223372036854775807) :
    Calls Tryd.prog 51 #[.string s, .int .i64 at_, .int .i64 wd] w (GetSays s at_ wd w) := by
  by_cases h : wd < 1 ∨ 8 < wd ∨ at_ < 0 ∨ (s.size : Int) < at_
  · exact rget_arg s at_ wd w hs h
  · by_cases h5 : s.size - at_ < wd
    · exact rget_short s at_ wd w hs (by omega) (by omega) (by omega) (by omega) h5
    · obtain ⟨k, rfl⟩ := Int.eq_ofNat_of_zero_le (show 0 ≤ wd by omega)
      obtain ⟨a, rfl⟩ := Int.eq_ofNat_of_zero_le (show 0 ≤ at_ by omega)
      exact rget_good s a k w (by omega) (by omega) hs (by omega)
end Go.Proofs.YtpcieookddpkhaaDoor
