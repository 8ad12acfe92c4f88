/- OctetDigits and OctetOnly return true, whatever they are given, and write nothing that was there. Conditions: the arguments are ints and texts. -/
import Derived.Test.YtmcafgimagpaaaaOctLaws
set_option linter.unusedVariables false
namespace Go.Proofs.Ytmcafgimagpaaaa
open Go.RowKit

theorem usays_none {s : ByteArray} (h : Oct.unhex s.data.toList = none) {w : World} {e : Ending} {w' : World} (hp : UnhexSays s w e w') :
    e = .returned (.tuple #[.string (T []), .int .i64 2]) ∧ Below w.heap.size w w' := by
  unfold UnhexSays at hp; rw [h] at hp; exact hp
theorem usays_some {s : ByteArray} {l : List UInt8} (h : Oct.unhex s.data.toList = some l) {w : World} {e : Ending} {w' : World} (hp : UnhexSays s w e w') :
    e = .returned (.tuple #[.string (T l), .int .i64 0]) ∧ Below w.heap.size w w' := by
  unfold UnhexSays at hp; rw [h] at hp; exact hp

set_option maxHeartbeats 1000000 in
theorem digits_any (l : List UInt8) (w : World) (hs : l.length ≤ 9223372036854775807) :
    Calls Try.prog 5 #[.string (T l)] w fun e w' => e = .returned (.bool true) ∧ Below w.heap.size w w' := by
  have hsz := T_size l
  by_cases h : (400 : Int) < (T l).size
  · go_enter Try.func5, Try.ntmps5
    go_wp2_with fail
    refine (alive_any _).mono ?_; rintro e w1 ⟨rfl, hb1⟩
    go_wp2_with fail
    go_ret
    exact ⟨rfl, hb1⟩
  · have hl : l.length ≤ 400 := by omega
    have HB := Lib.hid (fun w => (unhex_any (T (Oct.hex l)) w (by rw [T_size, Oct.hex_length]; omega)).mono fun e w' hp => usays_some (Oct.unhex_hex l) hp)
    have HX := Lib.hid (fun w => hex_any (T l) w (by rw [T_size]; omega))
    have HR := Lib.hid (fun w => rhex_any (T l) w (by rw [T_size]; omega))
    clear hsz
    cases hu : Oct.unhex l with
    | none =>
      have HA := Lib.hid (fun w => (unhex_any (T l) w (by rw [T_size]; omega)).mono fun e w' hp => usays_none hu hp)
      have HA2 := Lib.hid (fun w => (runhex_any (T l) w (by rw [T_size]; omega)).mono fun e w' hp => usays_none hu hp)
      clear hu
      go_enter Try.func5, Try.ntmps5
      go_wp2_with fail
      refine (HA.out _).mono ?_; rintro e w1 ⟨rfl, hb1⟩
      go_wp2_with fail
      refine (HA2.out _).mono ?_; rintro e w2 ⟨rfl, hb2⟩
      go_wp2_with fail
      refine (HX.out _).mono ?_; rintro e w3 ⟨rfl, hb3⟩
      go_wp2_with fail
      refine (HB.out _).mono ?_; rintro e w4 ⟨rfl, hb4⟩
      go_wp2_with fail
      refine (HX.out _).mono ?_; rintro e w5 ⟨rfl, hb5⟩
      go_wp2_with fail
      refine (HR.out _).mono ?_; rintro e w6 ⟨rfl, hb6⟩
      go_wp2_with fail
      refine (alive_any _).mono ?_; rintro e w7 ⟨rfl, hb7⟩
      go_wp2_with fail
      go_ret
      exact ⟨rfl, bnext (bnext (bnext (bnext (bnext (bnext hb1 hb2) hb3) hb4) hb5) hb6) hb7⟩
    | some r =>
      have hrl := Oct.unhex_length l r hu
      have hrx := Oct.hex_unhex l.length l r (Nat.le_refl _) hu
      have HA := Lib.hid (fun w => (unhex_any (T l) w (by rw [T_size]; omega)).mono fun e w' hp => usays_some hu hp)
      have HA2 := Lib.hid (fun w => (runhex_any (T l) w (by rw [T_size]; omega)).mono fun e w' hp => usays_some hu hp)
      have HY := Lib.hid (fun w => (hex_any (T r) w (by rw [T_size]; omega)).mono fun e w' hp => (show e = .returned (.string (T l)) ∧ Below w.heap.size w w' by rw [← hrx]; exact hp))
      clear hu hrl hrx
      go_enter Try.func5, Try.ntmps5
      go_wp2_with fail
      refine (HA.out _).mono ?_; rintro e w1 ⟨rfl, hb1⟩
      go_wp2_with fail
      refine (HA2.out _).mono ?_; rintro e w2 ⟨rfl, hb2⟩
      go_wp2_with fail
      refine (HX.out _).mono ?_; rintro e w3 ⟨rfl, hb3⟩
      go_wp2_with fail
      refine (HB.out _).mono ?_; rintro e w4 ⟨rfl, hb4⟩
      go_wp2_with fail
      refine (HX.out _).mono ?_; rintro e w5 ⟨rfl, hb5⟩
      go_wp2_with fail
      refine (HR.out _).mono ?_; rintro e w6 ⟨rfl, hb6⟩
      go_wp2_with fail
      refine (HY.out _).mono ?_; rintro e w7 ⟨rfl, hb7⟩
      go_wp2_with fail
      refine (alive_any _).mono ?_; rintro e w8 ⟨rfl, hb8⟩
      go_wp2_with fail
      go_ret
      exact ⟨rfl, bnext (bnext (bnext (bnext (bnext (bnext (bnext hb1 hb2) hb3) hb4) hb5) hb6) hb7) hb8⟩

theorem digits_wf (s : ByteArray) (w : World) (hs : s.size ≤ maxLen) :
    Calls Try.prog 5 #[.string s] w fun e w' => e = .returned (.bool true) ∧ Below w.heap.size w w' := by
  have h := digits_any s.data.toList w (by rw [size_list]; unfold maxLen at hs; omega)
  rw [T_of] at h
  exact h

/-! ## OctetOnly -/
theorem only_get {s : ByteArray} {at_ wd : Int} (h : Oct.getE s.data.toList at_ wd = 0) : ∃ a k N : Nat, at_ = a ∧ wd = k ∧ 1 ≤ k ∧ k ≤ 8 ∧ a + k ≤ s.size ∧ N ≤ 9223372036854775807 ∧ (N : Int) < 256 ^ k ∧
    Oct.getN s.data.toList at_ wd = N ∧ Oct.getT s.data.toList at_ wd = (a : Int) + k ∧ T (Oct.le k N) = s.extract a (a + k) := by
  have h0 := h
  unfold Oct.getE at h
  rw [size_list] at h
  split at h
  · cases h
  · split at h
    · cases h
    · split at h
      · cases h
      · rename_i h1 h2 h3
        obtain ⟨k, rfl⟩ := Int.eq_ofNat_of_zero_le (show 0 ≤ wd by omega)
        obtain ⟨a, rfl⟩ := Int.eq_ofNat_of_zero_le (show 0 ≤ at_ by omega)
        have hlen := Oct.part_length s.data.toList a k (by rw [size_list]; omega)
        refine ⟨a, k, Oct.leVal (Oct.part s.data.toList a k), rfl, rfl, by omega, by omega, by omega, by omega, ?_, ?_, ?_, ?_⟩
        · have := Oct.leVal_lt (Oct.part s.data.toList a k)
          rw [hlen] at this
          have h' := Int.ofNat_lt.2 this
          rw [Int.natCast_pow] at h'
          exact h'
        · unfold Oct.getN; rw [if_pos h0]
        · unfold Oct.getT; rw [if_pos h0]
        · have e := Oct.le_leVal (Oct.part s.data.toList a k)
          rw [hlen] at e
          rw [e, extract_T]
          unfold Oct.part
          rw [Int.toNat_natCast, Int.toNat_natCast, Nat.add_sub_cancel_left]

theorem getSays_at {s : ByteArray} {at_ wd n t E : Int} (hE : Oct.getE s.data.toList at_ wd = E) (hn : Oct.getN s.data.toList at_ wd = n) (ht : Oct.getT s.data.toList at_ wd = t) {w : World} {e : Ending} {w' : World} (hp : GetSays s at_ wd w e w') :
    e = .returned (.tuple #[.int .i64 n, .int .i64 t, .int .i64 E]) ∧ w = w' := by
  obtain ⟨he, hw⟩ := hp
  rw [hE, hn, ht] at he
  exact ⟨he, hw⟩
theorem putSays_ok {N k : Nat} (hk : 1 ≤ k) (hk2 : k ≤ 8) (hf : (N : Int) < 256 ^ k) {w : World} {e : Ending} {w' : World} (hp : PutSays (N : Int) (k : Int) w e w') :
    e = .returned (.tuple #[.string (T (Oct.le k N)), .int .i64 0]) ∧ Below w.heap.size w w' := by
  obtain ⟨he, hb⟩ := hp
  obtain ⟨he2, _⟩ := put_ok (N : Int) k w w hk hk2 (by omega) hf (Below.refl _ _)
  exact ⟨he.trans he2.symm, hb⟩

/-- The first half of OctetOnly's road: Get, then Put. -/
theorem only_gt {s : ByteArray} {at_ : Int} (h : Oct.gtE s.data.toList at_ = 0) : ∃ a n : Nat, at_ = a ∧ a + 2 + n ≤ s.size ∧ n ≤ 65535 ∧
    Oct.gtS s.data.toList at_ = (s.data.toList.drop (a + 2)).take n ∧ Oct.gtT s.data.toList at_ = (a : Int) + 2 + n ∧ T (Oct.le 2 n ++ (s.data.toList.drop (a + 2)).take n) = s.extract a (a + 2 + n) := by
  have hE : Oct.getE s.data.toList at_ 2 = 0 := by
    have h' := h
    unfold Oct.gtE at h'
    split at h'
    · rename_i hne; exact absurd h' hne
    · rename_i hne; exact Classical.byContradiction hne
  have hz := getE_zero hE
  obtain ⟨a, k, N, rfl, hk, _, _, hsz, _, _, hN, hT, hx⟩ := only_get hE
  obtain rfl : k = 2 := by omega
  have hn16 := hz.2.2.2.2
  rw [hN] at hn16
  have hfit : ¬ (s.size : Int) - (a + 2) < N := by
    have h' := h
    unfold Oct.gtE at h'
    rw [hE, if_neg (by simp), hN, hz.2.2.1, size_list] at h'
    intro hc
    rw [if_pos hc] at h'
    cases h'
  refine ⟨a, N, rfl, by omega, by omega, ?_, ?_, ?_⟩
  · unfold Oct.gtS; rw [if_pos h, hN, hz.2.2.1, Int.toNat_natCast, show ((a : Int) + 2).toNat = a + 2 from by omega]
  · unfold Oct.gtT; rw [if_pos h, hN, hz.2.2.1]
  · rw [extract_T] at hx ⊢
    have hx' := T_inj hx
    rw [hx']
    congr 1
    rw [show a + 2 + N - a = 2 + N from by omega, show a + 2 - a = 2 from by omega, List.take_add, List.drop_drop]

theorem gtSays_at {s : ByteArray} {at_ t E : Int} {l : List UInt8} (hE : Oct.gtE s.data.toList at_ = E) (hl : Oct.gtS s.data.toList at_ = l) (ht : Oct.gtT s.data.toList at_ = t) {w : World} {e : Ending} {w' : World} (hp : GtSays s at_ w e w') :
    e = .returned (.tuple #[.string (T l), .int .i64 t, .int .i64 E]) ∧ w = w' := by
  obtain ⟨he, hw⟩ := hp
  rw [hE, hl, ht] at he
  exact ⟨he, hw⟩
theorem pt_part (s : ByteArray) (a n : Nat) (w : World) (h : a + 2 + n ≤ s.size) (hn : n ≤ 65535) (hx : T (Oct.le 2 n ++ (s.data.toList.drop (a + 2)).take n) = s.extract a (a + 2 + n)) :
    Calls Try.prog 13 #[.string (T ((s.data.toList.drop (a + 2)).take n))] w fun e w' => e = .returned (.tuple #[.string (s.extract a (a + 2 + n)), .int .i64 0]) ∧ Below w.heap.size w w' := by
  have hl : ((s.data.toList.drop (a + 2)).take n).length = n := by
    rw [List.length_take, List.length_drop, size_list]; omega
  generalize (s.data.toList.drop (a + 2)).take n = l at *
  refine (pt_any (T l) w (by rw [T_size, hl]; omega)).mono fun e w' hp => ?_
  obtain ⟨he, hb⟩ := hp
  unfold Oct.ptS Oct.ptE at he
  rw [T_list, hl, if_neg (by omega), if_neg (by omega), hx] at he
  exact ⟨he, hb⟩

set_option maxHeartbeats 1000000 in
theorem only_any (s : ByteArray) (at_ wd : Int) (w : World) (hs : s.size ≤ 9223372036854775807) :
    Calls Try.prog 7 #[.string s, .int .i64 at_, .int .i64 wd] w fun e w' => e = .returned (.bool true) ∧ Below w.heap.size w w' := by
  by_cases h : (1000 : Int) < s.size
  · go_enter Try.func7, Try.ntmps7
    go_wp2_with fail
    refine (alive_any _).mono ?_; rintro e w1 ⟨rfl, hb1⟩
    go_wp2_with fail
    go_ret
    exact ⟨rfl, hb1⟩
  · obtain ⟨E1, hE1⟩ : ∃ E, Oct.getE s.data.toList at_ wd = E := ⟨_, rfl⟩
    obtain ⟨E2, hE2⟩ : ∃ E, Oct.gtE s.data.toList at_ = E := ⟨_, rfl⟩
    by_cases z1 : E1 = 0
    · subst z1
      obtain ⟨a, k, N, rfl, rfl, hk, hk2, hsz, hN, hf, hn, ht, hx⟩ := only_get hE1
      have HG := Lib.hid (fun w => (get_any s a k w hs).mono fun e w' hp => getSays_at hE1 hn ht hp)
      have HP := Lib.hid (fun w => (put_any (N : Int) (k : Int) w (by omega)).mono fun e w' hp => (show e = .returned (.tuple #[.string (s.extract a (a + k)), .int .i64 0]) ∧ Below w.heap.size w w' by rw [← hx]; exact putSays_ok hk hk2 hf hp))
      clear hE1 hn ht hx hf hN
      by_cases z2 : E2 = 0
      · subst z2
        obtain ⟨a', n, ha', hsz2, hn16, hS, hT, hx2⟩ := only_gt hE2
        obtain rfl : a = a' := by omega
        have HGT := Lib.hid (fun w => (gt_any s a w hs).mono fun e w' hp => gtSays_at hE2 hS hT hp)
        have HPT := Lib.hid (fun w => pt_part s a n w (by omega) hn16 hx2)
        clear hE2 hS hT hx2 ha'
        go_enter Try.func7, Try.ntmps7
        go_wp2_with fail
        refine (HG.out _).mono ?_; rintro e w0' ⟨rfl, rfl⟩
        go_wp2_with fail
        refine (HP.out _).mono ?_; rintro e w1 ⟨rfl, hb1⟩
        go_wp2_with fail
        refine (HGT.out _).mono ?_; rintro e w2' ⟨rfl, rfl⟩
        go_wp2_with fail
        refine (HPT.out _).mono ?_; rintro e w2 ⟨rfl, hb2⟩
        go_wp2_with fail
        refine (alive_any _).mono ?_; rintro e w5 ⟨rfl, hb5⟩
        go_wp2_with fail
        go_ret
        exact ⟨rfl, bnext (bnext hb1 hb2) hb5⟩
      · have HGT := Lib.hid (fun w => (gt_any s a w hs).mono fun e w' hp => gtSays_at hE2 rfl rfl hp)
        have hz2 : (E2 == 0) = false := beq_eq_false_iff_ne.2 z2
        clear z2 hE2
        go_enter Try.func7, Try.ntmps7
        go_wp2_with fail
        refine (HG.out _).mono ?_; rintro e w0' ⟨rfl, rfl⟩
        go_wp2_with fail
        refine (HP.out _).mono ?_; rintro e w1 ⟨rfl, hb1⟩
        go_wp2_with fail
        refine (HGT.out _).mono ?_; rintro e w2' ⟨rfl, rfl⟩
        go_wp2_with fail
        refine (alive_any _).mono ?_; rintro e w5 ⟨rfl, hb5⟩
        go_wp2_with fail
        go_ret
        exact ⟨rfl, bnext hb1 hb5⟩
    · have HG := Lib.hid (fun w => (get_any s at_ wd w hs).mono fun e w' hp => getSays_at hE1 rfl rfl hp)
      have hz1 : (E1 == 0) = false := beq_eq_false_iff_ne.2 z1
      clear z1 hE1
      by_cases z2 : E2 = 0
      · subst z2
        obtain ⟨a, n, rfl, hsz2, hn16, hS, hT, hx2⟩ := only_gt hE2
        have HGT := Lib.hid (fun w => (gt_any s a w hs).mono fun e w' hp => gtSays_at hE2 hS hT hp)
        have HPT := Lib.hid (fun w => pt_part s a n w (by omega) hn16 hx2)
        clear hE2 hS hT hx2
        go_enter Try.func7, Try.ntmps7
        go_wp2_with fail
        refine (HG.out _).mono ?_; rintro e w0' ⟨rfl, rfl⟩
        go_wp2_with fail
        refine (HGT.out _).mono ?_; rintro e w2' ⟨rfl, rfl⟩
        go_wp2_with fail
        refine (HPT.out _).mono ?_; rintro e w2 ⟨rfl, hb2⟩
        go_wp2_with fail
        refine (alive_any _).mono ?_; rintro e w5 ⟨rfl, hb5⟩
        go_wp2_with fail
        go_ret
        exact ⟨rfl, bnext hb2 hb5⟩
      · have HGT := Lib.hid (fun w => (gt_any s at_ w hs).mono fun e w' hp => gtSays_at hE2 rfl rfl hp)
        have hz2 : (E2 == 0) = false := beq_eq_false_iff_ne.2 z2
        clear z2 hE2
        go_enter Try.func7, Try.ntmps7
        go_wp2_with fail
        refine (HG.out _).mono ?_; rintro e w0' ⟨rfl, rfl⟩
        go_wp2_with fail
        refine (HGT.out _).mono ?_; rintro e w2' ⟨rfl, rfl⟩
        go_wp2_with fail
        refine (alive_any _).mono ?_; rintro e w5 ⟨rfl, hb5⟩
        go_wp2_with fail
        go_ret
        exact ⟨rfl, hb5⟩

theorem only_wf (s : ByteArray) (at_ wd : Int) (w : World) (hs : s.size ≤ maxLen) (_ : (Lit.int .i64 at_).wf = true) (_ : (Lit.int .i64 wd).wf = true) :
    Calls Try.prog 7 #[.string s, .int .i64 at_, .int .i64 wd] w fun e w' => e = .returned (.bool true) ∧ Below w.heap.size w w' :=
  only_any s at_ wd w (by unfold maxLen at hs; omega)
end Go.Proofs.Ytmcafgimagpaaaa
