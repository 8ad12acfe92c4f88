/- What octet.PutText and GetText and the reference's return: Oct.ptS, Oct.ptE; Oct.gtS, Oct.gtT, Oct.gtE. Conditions: the text is no longer than an int can say. -/
import Derived.Test.YtmcafgimagpaaaaOctRef
set_option linter.unusedVariables false
namespace Go.Proofs.Ytmcafgimagpaaaa
open Go.RowKit
def PtSays (s : ByteArray) (w : World) (e : Ending) (w' : World) : Prop :=
  e = .returned (.tuple #[.string (T (Oct.ptS s.data.toList)), .int .i64 (Oct.ptE s.data.toList)]) ∧ Below w.heap.size w w'
def GtSays (s : ByteArray) (at_ : Int) (w : World) (e : Ending) (w' : World) : Prop :=
  e = .returned (.tuple #[.string (T (Oct.gtS s.data.toList at_)), .int .i64 (Oct.gtT s.data.toList at_), .int .i64 (Oct.gtE s.data.toList at_)]) ∧ w = w'

theorem putSays_len (n : Nat) (h : n ≤ 65535) {w : World} {e : Ending} {w' : World} (hp : PutSays (n : Int) 2 w e w') :
    e = .returned (.tuple #[.string (T (Oct.le 2 n)), .int .i64 0]) ∧ Below w.heap.size w w' := by
  have hE : Oct.putE (n : Int) 2 = 0 := by unfold Oct.putE; rw [if_neg (by omega), if_neg]; simp; omega
  have hS : Oct.putS (n : Int) 2 = Oct.le 2 n := by unfold Oct.putS; rw [hE, if_pos rfl]; rfl
  obtain ⟨he, hb⟩ := hp
  rw [hE, hS] at he
  exact ⟨he, hb⟩
theorem putSays_long (n : Nat) (h : 65535 < n) {w : World} {e : Ending} {w' : World} (hp : PutSays (n : Int) 2 w e w') :
    e = .returned (.tuple #[.string (T []), .int .i64 5]) ∧ Below w.heap.size w w' := by
  have hE : Oct.putE (n : Int) 2 = 5 := by unfold Oct.putE; rw [if_neg (by omega), if_pos]; right; simp; omega
  have hS : Oct.putS (n : Int) 2 = [] := by unfold Oct.putS; rw [hE, if_neg (by decide)]
  obtain ⟨he, hb⟩ := hp
  rw [hE, hS] at he
  exact ⟨he, hb⟩
theorem pt_long {s : ByteArray} (h : 65535 < s.size) {w w' : World} (hb : Below w.heap.size w w') : PtSays s w (.returned (.tuple #[.string (T []), .int .i64 4])) w' := by
  unfold PtSays Oct.ptS Oct.ptE; rw [size_list, if_pos h, if_pos h]; exact ⟨rfl, hb⟩
theorem pt_short {s : ByteArray} (h : ¬ 65535 < s.size) {w w' : World} (hb : Below w.heap.size w w') : PtSays s w (.returned (.tuple #[.string (T (Oct.le 2 s.size) ++ s), .int .i64 0])) w' := by
  unfold PtSays Oct.ptS Oct.ptE; rw [size_list, if_neg h, if_neg h]
  conv => lhs; rw [← T_of s, T_append]
  exact ⟨rfl, hb⟩
theorem le2_add (s : ByteArray) (h : s.size ≤ 65535) (w : World) : (Op.stringOp .add (T (Oct.le 2 s.size)) s).run Try.prog w = .ok (.string (T (Oct.le 2 s.size) ++ s)) w :=
  run_string_add_sum w _ _ (by rw [T_size, Oct.le_length]; omega)

set_option maxHeartbeats 400000 in
theorem pt_any (s : ByteArray) (w : World) (hs : s.size ≤ 9223372036854775807) : Calls Try.prog 13 #[.string s] w (PtSays s w) := by
  by_cases h : 65535 < s.size
  · have hi : (65535 : Int) < s.size := by omega
    have HF := Lib.hid (pt_long h (Below.refl _ w))
    clear h
    go_enter Try.func13, Try.ntmps13
    go_wp2
    go_ret2
    exact HF.out
  · have hi : ¬ (65535 : Int) < s.size := by omega
    have HF := Lib.hid (fun w' => pt_short h (w := w) (w' := w'))
    have hc := (put_any (s.size : Int) 2 w (by omega)).mono fun e w' hp => putSays_len s.size (by omega) hp
    have HC := Lib.hid hc
    have hadd := le2_add s (by omega)
    clear h hc
    go_enter Try.func13, Try.ntmps13
    go_wp2_with (go_at_call 9; refine HC.out.mono ?_; rintro e w' ⟨rfl, hb⟩)
    go_ret2
    exact HF.out _ hb

set_option maxHeartbeats 400000 in
theorem rpt_any (s : ByteArray) (w : World) (hs : s.size ≤ 9223372036854775807) : Calls Try.prog 14 #[.string s] w (PtSays s w) := by
  by_cases h : 65535 < s.size
  · have HF := Lib.hid (fun w' => pt_long h (w := w) (w' := w'))
    have hc := (rput_any (s.size : Int) 2 w (by omega)).mono fun e w' hp => putSays_long s.size h hp
    have HC := Lib.hid hc
    clear h hc
    go_enter Try.func14, Try.ntmps14
    go_wp2_with (go_at_call 10; refine HC.out.mono ?_; rintro e w' ⟨rfl, hb⟩)
    go_ret2
    exact HF.out _ hb
  · have HF := Lib.hid (fun w' => pt_short h (w := w) (w' := w'))
    have hc := (rput_any (s.size : Int) 2 w (by omega)).mono fun e w' hp => putSays_len s.size (by omega) hp
    have HC := Lib.hid hc
    have hadd := le2_add s (by omega)
    clear h hc
    go_enter Try.func14, Try.ntmps14
    go_wp2_with (go_at_call 10; refine HC.out.mono ?_; rintro e w' ⟨rfl, hb⟩)
    go_ret2
    exact HF.out _ hb

theorem getSays_bad {s : ByteArray} {at_ E : Int} (hE : Oct.getE s.data.toList at_ 2 = E) (h0 : E ≠ 0) {w : World} {e : Ending} {w' : World} (hp : GetSays s at_ 2 w e w') :
    e = .returned (.tuple #[.int .i64 0, .int .i64 0, .int .i64 E]) ∧ w = w' := by
  obtain ⟨he, hw⟩ := hp
  unfold Oct.getN Oct.getT at he
  rw [hE, if_neg h0, if_neg h0] at he
  exact ⟨he, hw⟩
theorem gt_bad {s : ByteArray} {at_ E : Int} (hE : Oct.getE s.data.toList at_ 2 = E) (h0 : E ≠ 0) (w : World) : GtSays s at_ w (.returned (.tuple #[.string (T []), .int .i64 0, .int .i64 E])) w := by
  have h1 : Oct.gtE s.data.toList at_ = E := by unfold Oct.gtE; rw [hE, if_pos h0]
  unfold GtSays Oct.gtS Oct.gtT
  rw [h1, if_neg h0, if_neg h0]
  exact ⟨rfl, rfl⟩
theorem getE_zero {s : List UInt8} {at_ : Int} (h : Oct.getE s at_ 2 = 0) : 0 ≤ at_ ∧ at_ + 2 ≤ s.length ∧ Oct.getT s at_ 2 = at_ + 2 ∧ 0 ≤ Oct.getN s at_ 2 ∧ Oct.getN s at_ 2 ≤ 65535 := by
  have h0 := h
  unfold Oct.getE at h
  split at h
  · cases h
  · rename_i h1
    split at h
    · cases h
    · rename_i h2
      refine ⟨by omega, by omega, by unfold Oct.getT; rw [if_pos h0], ?_⟩
      unfold Oct.getN
      rw [if_pos h0]
      have hl : (Oct.part s at_ 2).length ≤ 2 := by unfold Oct.part; rw [List.length_take]; exact Nat.min_le_left _ _
      have := Oct.leVal_lt (Oct.part s at_ 2)
      have hp : 256 ^ (Oct.part s at_ 2).length ≤ 256 ^ 2 := Nat.pow_le_pow_right (by omega) hl
      omega
theorem getSays_good {s : ByteArray} {at_ n : Int} (hE : Oct.getE s.data.toList at_ 2 = 0) (hn : Oct.getN s.data.toList at_ 2 = n) {w : World} {e : Ending} {w' : World} (hp : GetSays s at_ 2 w e w') :
    e = .returned (.tuple #[.int .i64 n, .int .i64 (at_ + 2), .int .i64 0]) ∧ w = w' := by
  obtain ⟨he, hw⟩ := hp
  rw [hE, hn, (getE_zero hE).2.2.1] at he
  exact ⟨he, hw⟩
theorem gt_short {s : ByteArray} {at_ n : Int} (hE : Oct.getE s.data.toList at_ 2 = 0) (hn : Oct.getN s.data.toList at_ 2 = n) (hs : (s.size : Int) - (at_ + 2) < n) (w : World) :
    GtSays s at_ w (.returned (.tuple #[.string (T []), .int .i64 0, .int .i64 3])) w := by
  have h1 : Oct.gtE s.data.toList at_ = 3 := by unfold Oct.gtE; rw [hE, if_neg (by simp), (getE_zero hE).2.2.1, hn, size_list, if_pos hs]
  unfold GtSays Oct.gtS Oct.gtT
  rw [h1]
  exact ⟨rfl, rfl⟩
theorem extract_T (s : ByteArray) (a b : Nat) : s.extract a b = T ((s.data.toList.drop a).take (b - a)) := by
  apply ByteArray.ext
  apply Array.ext'
  simp
theorem gt_good {s : ByteArray} {a n : Nat} (hE : Oct.getE s.data.toList a 2 = 0) (hn : Oct.getN s.data.toList a 2 = (n : Int)) (hs : ¬ (s.size : Int) - (a + 2) < n) (w : World) :
    GtSays s a w (.returned (.tuple #[.string (s.extract (a + 2) (a + 2 + n)), .int .i64 ((a : Int) + 2 + n), .int .i64 0])) w := by
  have h1 : Oct.gtE s.data.toList a = 0 := by unfold Oct.gtE; rw [hE, if_neg (by simp), (getE_zero hE).2.2.1, hn, size_list, if_neg hs]
  unfold GtSays Oct.gtS Oct.gtT
  rw [h1, (getE_zero hE).2.2.1, hn, if_pos rfl, if_pos rfl, extract_T]
  refine ⟨?_, rfl⟩
  have e1 : ((a : Int) + 2).toNat = a + 2 := by omega
  rw [e1, Int.toNat_natCast, Nat.add_sub_cancel_left]


set_option maxHeartbeats 400000 in
theorem gt_any (s : ByteArray) (at_ : Int) (w : World) (hs : s.size ≤ 9223372036854775807) : Calls Try.prog 15 #[.string s, .int .i64 at_] w (GtSays s at_ w) := by
  by_cases hE : Oct.getE s.data.toList at_ 2 = 0
  · have hz := getE_zero hE
    obtain ⟨a, rfl⟩ := Int.eq_ofNat_of_zero_le hz.1
    obtain ⟨n, hn⟩ := Int.eq_ofNat_of_zero_le hz.2.2.2.1
    have hn2 : (n : Int) ≤ 65535 := by have := hz.2.2.2.2; omega
    have ha : (a : Int) + 2 ≤ s.size := by have := hz.2.1; rw [size_list] at this; exact this
    have HC := Lib.hid ((get_any s a 2 w hs).mono fun e w' hp => getSays_good hE hn hp)
    clear hz
    by_cases hsh : (s.size : Int) - (a + 2) < n
    · have HF := Lib.hid (gt_short hE hn hsh w)
      clear hE hn
      go_enter Try.func15, Try.ntmps15
      go_wp2_with (go_at_call 11; refine HC.out.mono ?_; rintro e w' ⟨rfl, rfl⟩)
      go_ret3
      exact HF.out
    · have HF := Lib.hid (gt_good hE hn hsh w)
      clear hE hn
      have h3 : a + 2 + n ≤ s.size := by omega
      go_enter Try.func15, Try.ntmps15
      go_wp2_with (go_at_call 11; refine HC.out.mono ?_; rintro e w' ⟨rfl, rfl⟩)
      go_ret3
      exact HF.out
  · obtain ⟨E, hEE⟩ : ∃ E, Oct.getE s.data.toList at_ 2 = E := ⟨_, rfl⟩
    have h0 : E ≠ 0 := by rw [← hEE]; exact hE
    have HC := Lib.hid ((get_any s at_ 2 w hs).mono fun e w' hp => getSays_bad hEE h0 hp)
    have HF := Lib.hid (gt_bad hEE h0 w)
    have hb : (E != 0) = true := by rw [bne_iff_ne]; exact h0
    clear hE hEE h0
    go_enter Try.func15, Try.ntmps15
    go_wp2_with (go_at_call 11; refine HC.out.mono ?_; rintro e w' ⟨rfl, rfl⟩)
    go_ret3
    exact HF.out

set_option maxHeartbeats 400000 in
theorem rgt_any (s : ByteArray) (at_ : Int) (w : World) (hs : s.size ≤ 9223372036854775807) : Calls Try.prog 16 #[.string s, .int .i64 at_] w (GtSays s at_ w) := by
  by_cases hE : Oct.getE s.data.toList at_ 2 = 0
  · have hz := getE_zero hE
    obtain ⟨a, rfl⟩ := Int.eq_ofNat_of_zero_le hz.1
    obtain ⟨n, hn⟩ := Int.eq_ofNat_of_zero_le hz.2.2.2.1
    have hn2 : (n : Int) ≤ 65535 := by have := hz.2.2.2.2; omega
    have ha : (a : Int) + 2 ≤ s.size := by have := hz.2.1; rw [size_list] at this; exact this
    have HC := Lib.hid ((rget_any s a 2 w hs).mono fun e w' hp => getSays_good hE hn hp)
    clear hz
    by_cases hsh : (s.size : Int) - (a + 2) < n
    · have HF := Lib.hid (gt_short hE hn hsh w)
      clear hE hn
      go_enter Try.func16, Try.ntmps16
      go_wp2_with (go_at_call 12; refine HC.out.mono ?_; rintro e w' ⟨rfl, rfl⟩)
      go_ret3
      exact HF.out
    · have HF := Lib.hid (gt_good hE hn hsh w)
      clear hE hn
      have h3 : a + 2 + n ≤ s.size := by omega
      go_enter Try.func16, Try.ntmps16
      go_wp2_with (go_at_call 12; refine HC.out.mono ?_; rintro e w' ⟨rfl, rfl⟩)
      go_ret3
      exact HF.out
  · obtain ⟨E, hEE⟩ : ∃ E, Oct.getE s.data.toList at_ 2 = E := ⟨_, rfl⟩
    have h0 : E ≠ 0 := by rw [← hEE]; exact hE
    have HC := Lib.hid ((rget_any s at_ 2 w hs).mono fun e w' hp => getSays_bad hEE h0 hp)
    have HF := Lib.hid (gt_bad hEE h0 w)
    have hb : (E != 0) = true := by rw [bne_iff_ne]; exact h0
    clear hE hEE h0
    go_enter Try.func16, Try.ntmps16
    go_wp2_with (go_at_call 12; refine HC.out.mono ?_; rintro e w' ⟨rfl, rfl⟩)
    go_ret3
    exact HF.out
end Go.Proofs.Ytmcafgimagpaaaa
