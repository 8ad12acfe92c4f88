/- OctetBack returns true, whatever it is given, and writes nothing that was there. Conditions: the arguments are ints and texts. -/
import Derived.Test.YtmcafgimagpaaaaOctDigits
import Derived.ProofKit
import Derived.OpenShut
set_option linter.unusedVariables false
namespace Go.Proofs.Ytmcafgimagpaaaa
open Go.RowKit

theorem part_mid (a c : List UInt8) (k N : Nat) : Oct.part (a ++ Oct.le k N ++ c) a.length k = Oct.le k N := by
  unfold Oct.part
  rw [Int.toNat_natCast, Int.toNat_natCast, List.append_assoc, List.drop_left]
  have := Oct.le_length k N
  rw [List.take_append_of_le_length (by omega), List.take_of_length_le (by omega)]

theorem get_mid (a c : List UInt8) (k N : Nat) (hk : 1 ≤ k) (hk2 : k ≤ 8) (hN : N ≤ 9223372036854775807) (hf : N < 256 ^ k) :
    Oct.getE (a ++ Oct.le k N ++ c) a.length k = 0 ∧ Oct.getN (a ++ Oct.le k N ++ c) a.length k = N ∧ Oct.getT (a ++ Oct.le k N ++ c) a.length k = (a.length : Int) + k := by
  have hv : Oct.leVal (Oct.part (a ++ Oct.le k N ++ c) a.length k) = N := by rw [part_mid, Oct.leVal_le, Nat.mod_eq_of_lt hf]
  have hE : Oct.getE (a ++ Oct.le k N ++ c) a.length k = 0 := by
    have hlen : (a ++ Oct.le k N ++ c).length = a.length + k + c.length := by simp [Oct.le_length]; omega
    unfold Oct.getE
    rw [hv, hlen, if_neg (by omega), if_neg (by omega), if_neg (by omega)]
  refine ⟨hE, ?_, ?_⟩
  · unfold Oct.getN; rw [if_pos hE, hv]
  · unfold Oct.getT; rw [if_pos hE]

theorem gt_mid (a b c : List UInt8) (hb : b.length ≤ 65535) :
    Oct.gtE (a ++ (Oct.le 2 b.length ++ b) ++ c) a.length = 0 ∧ Oct.gtS (a ++ (Oct.le 2 b.length ++ b) ++ c) a.length = b ∧ Oct.gtT (a ++ (Oct.le 2 b.length ++ b) ++ c) a.length = (a.length : Int) + (2 + b.length : Nat) := by
  have e : a ++ (Oct.le 2 b.length ++ b) ++ c = a ++ Oct.le 2 b.length ++ (b ++ c) := by simp
  obtain ⟨h1, h2, h3⟩ := get_mid a (b ++ c) 2 b.length (by omega) (by omega) (by omega) (by omega)
  rw [e]
  have hlen : (a ++ Oct.le 2 b.length ++ (b ++ c)).length = a.length + 2 + b.length + c.length := by simp [Oct.le_length]; omega
  have h1' : Oct.getE (a ++ Oct.le 2 b.length ++ (b ++ c)) a.length 2 = 0 := h1
  have h2' : Oct.getN (a ++ Oct.le 2 b.length ++ (b ++ c)) a.length 2 = (b.length : Int) := h2
  have h3' : Oct.getT (a ++ Oct.le 2 b.length ++ (b ++ c)) a.length 2 = (a.length : Int) + 2 := h3
  have hE : Oct.gtE (a ++ Oct.le 2 b.length ++ (b ++ c)) a.length = 0 := by
    unfold Oct.gtE
    rw [h1', if_neg (by simp), h2', h3', hlen, if_neg (by omega)]
  refine ⟨hE, ?_, ?_⟩
  · unfold Oct.gtS
    rw [if_pos hE, h2', h3', Int.toNat_natCast, show ((a.length : Int) + 2).toNat = (a ++ Oct.le 2 b.length).length from by simp [Oct.le_length]; omega, List.drop_left, List.take_left]
  · unfold Oct.gtT
    rw [if_pos hE, h2', h3']
    omega

theorem putSays_at {n wd E : Int} {l : List UInt8} (hE : Oct.putE n wd = E) (hl : Oct.putS n wd = l) {w : World} {e : Ending} {w' : World} (hp : PutSays n wd w e w') :
    e = .returned (.tuple #[.string (T l), .int .i64 E]) ∧ Below w.heap.size w w' := by
  obtain ⟨he, hb⟩ := hp
  rw [hE, hl] at he
  exact ⟨he, hb⟩
theorem put_zero {n wd : Int} (h : Oct.putE n wd = 0) : ∃ N k : Nat, n = N ∧ wd = k ∧ 1 ≤ k ∧ k ≤ 8 ∧ N < 256 ^ k ∧ Oct.putS n wd = Oct.le k N := by
  have h0 := h
  unfold Oct.putE at h
  split at h
  · cases h
  · split at h
    · cases h
    · rename_i h1 h2
      obtain ⟨k, rfl⟩ := Int.eq_ofNat_of_zero_le (show 0 ≤ wd by omega)
      obtain ⟨N, rfl⟩ := Int.eq_ofNat_of_zero_le (show 0 ≤ n by omega)
      refine ⟨N, k, rfl, rfl, by omega, by omega, ?_, ?_⟩
      · have h3 : (N : Int) < 256 ^ k := by
          have := Int.not_le.1 fun h => h2 (.inr h)
          rwa [Int.toNat_natCast] at this
        have h4 : ((N : Nat) : Int) < ((256 ^ k : Nat) : Int) := by rw [Int.natCast_pow]; exact h3
        exact Int.ofNat_lt.1 h4
      · unfold Oct.putS; rw [if_pos h0]; rfl

set_option maxRecDepth 100000 in
set_option maxHeartbeats 2000000 in
theorem back_any (n wd : Int) (a b c : List UInt8) (w : World) (hn : n ≤ 9223372036854775807) (ha : a.length ≤ 9223372036854775807) (hb : b.length ≤ 9223372036854775807) (hc : c.length ≤ 9223372036854775807) :
    Calls Try.prog 6 #[.int .i64 n, .int .i64 wd, .agg #[.string (T a), .string (T b), .string (T c)]] w fun e w' => e = .returned (.bool true) ∧ Below w.heap.size w w' := by
  have sa := T_size a
  have sb := T_size b
  have sc := T_size c
  have hb0 : Below w.heap.size w (w.alloc (.cells #[.string (T a), .string (T b), .string (T c)] 35)) := (Below.refl _ _).alloc (Nat.le_refl _) _
  by_cases h1 : (300 : Int) < (T a).size
  · go_enter Try.func6, Try.ntmps6
    go_wp2_with fail
    refine (alive_any _).mono ?_; rintro e w1 ⟨rfl, hb1⟩
    go_wp2_with fail
    go_ret
    exact ⟨rfl, bnext hb0 hb1⟩
  by_cases h2 : (300 : Int) < (T b).size
  · go_enter Try.func6, Try.ntmps6
    go_wp2_with fail
    refine (alive_any _).mono ?_; rintro e w1 ⟨rfl, hb1⟩
    go_wp2_with fail
    go_ret
    exact ⟨rfl, bnext hb0 hb1⟩
  by_cases h3 : (300 : Int) < (T c).size
  · go_enter Try.func6, Try.ntmps6
    go_wp2_with fail
    refine (alive_any _).mono ?_; rintro e w1 ⟨rfl, hb1⟩
    go_wp2_with fail
    go_ret
    exact ⟨rfl, bnext hb0 hb1⟩
  have ha3 : a.length ≤ 300 := by omega
  have hb3 : b.length ≤ 300 := by omega
  have hc3 : c.length ≤ 300 := by omega
  have HPT := Lib.hid (fun w => (pt_any (T b) w (by omega)).mono fun e w' hp => (show e = .returned (.tuple #[.string (T (Oct.le 2 b.length ++ b)), .int .i64 0]) ∧ Below w.heap.size w w' by
    obtain ⟨he, hb⟩ := hp
    unfold Oct.ptS Oct.ptE at he
    rw [T_list, if_neg (by omega), if_neg (by omega)] at he
    exact ⟨he, hb⟩))
  have hgm := gt_mid a b c (by omega)
  rw [List.append_assoc, List.append_assoc] at hgm
  have HGT := Lib.hid (fun w => (gt_any (T (a ++ (Oct.le 2 b.length ++ (b ++ c)))) a.length w (by rw [T_size]; simp [Oct.le_length]; omega)).mono fun e w' hp =>
    gtSays_at hgm.1 hgm.2.1 hgm.2.2 hp)
  clear hgm
  have hadd3 := fun w : World => add_T w a (Oct.le 2 b.length ++ b) (by simp [Oct.le_length]; omega)
  have hadd4 := fun w : World => add_T w (a ++ (Oct.le 2 b.length ++ b)) c (by simp [Oct.le_length]; omega)
  have hs2 : (T (Oct.le 2 b.length ++ b)).size = 2 + b.length := by rw [T_size]; simp [Oct.le_length]
  obtain ⟨E1, hE1⟩ : ∃ E, Oct.putE n wd = E := ⟨_, rfl⟩
  by_cases z1 : E1 = 0
  · subst z1
    obtain ⟨N, k, rfl, rfl, hk, hk2, hf, hS⟩ := put_zero hE1
    have hm := get_mid a c k N hk hk2 (by omega) hf
    rw [List.append_assoc] at hm
    have HP := Lib.hid (fun w => (put_any (N : Int) (k : Int) w hn).mono fun e w' hp => putSays_at hE1 hS hp)
    have HG := Lib.hid (fun w => (get_any (T (a ++ (Oct.le k N ++ c))) a.length k w (by rw [T_size]; simp [Oct.le_length]; omega)).mono fun e w' hp => getSays_at hm.1 hm.2.1 hm.2.2 hp)
    have hadd1 := fun w : World => add_T w a (Oct.le k N) (by rw [Oct.le_length]; omega)
    have hadd2 := fun w : World => add_T w (a ++ Oct.le k N) c (by rw [List.length_append, Oct.le_length]; omega)
    have hs1 : (T (Oct.le k N)).size = k := by rw [T_size, Oct.le_length]
    clear hE1 hS hm hf
    go_enter Try.func6, Try.ntmps6
    go_wp2_with fail
    refine (HP.out _).mono ?_; rintro e w1 ⟨rfl, hb1⟩
    obtain ⟨hcc, hff⟩ := bcell hb1
    go_wp2_with fail
    refine (HG.out _).mono ?_; rintro e w1' ⟨rfl, rfl⟩
    go_wp2_with fail
    refine (HPT.out _).mono ?_; rintro e w2 ⟨rfl, hb2⟩
    clear hcc hff
    obtain ⟨hcc2, hff2⟩ := bcell (bnext hb1 hb2)
    go_wp2_with fail
    refine (HGT.out _).mono ?_; rintro e w2' ⟨rfl, rfl⟩
    go_wp2_with fail
    refine (alive_any _).mono ?_; rintro e w5 ⟨rfl, hb5⟩
    go_wp2_with fail
    go_ret
    exact ⟨rfl, bnext (bnext (bnext hb0 hb1) hb2) hb5⟩
  · have HP := Lib.hid (fun w => (put_any n wd w hn).mono fun e w' hp => putSays_at hE1 rfl hp)
    have hz1 : (E1 == 0) = false := beq_eq_false_iff_ne.2 z1
    clear z1 hE1
    go_enter Try.func6, Try.ntmps6
    go_wp2_with fail
    refine (HP.out _).mono ?_; rintro e w1 ⟨rfl, hb1⟩
    obtain ⟨hcc, hff⟩ := bcell hb1
    go_wp2_with fail
    refine (HPT.out _).mono ?_; rintro e w2 ⟨rfl, hb2⟩
    clear hcc hff
    obtain ⟨hcc2, hff2⟩ := bcell (bnext hb1 hb2)
    go_wp2_with fail
    refine (HGT.out _).mono ?_; rintro e w2' ⟨rfl, rfl⟩
    go_wp2_with fail
    refine (alive_any _).mono ?_; rintro e w5 ⟨rfl, hb5⟩
    go_wp2_with fail
    go_ret
    exact ⟨rfl, bnext (bnext (bnext hb0 hb1) hb2) hb5⟩

theorem back_wf (n wd : Int) (a b c : ByteArray) (w : World) (hn : (Lit.int .i64 n).wf = true) (_ : (Lit.int .i64 wd).wf = true) (hs : a.size ≤ maxLen ∧ b.size ≤ maxLen ∧ c.size ≤ maxLen) :
    Calls Try.prog 6 #[.int .i64 n, .int .i64 wd, .agg #[.string a, .string b, .string c]] w fun e w' => e = .returned (.bool true) ∧ Below w.heap.size w w' := by
  have h := back_any n wd a.data.toList b.data.toList c.data.toList w (i64s n hn).2 (by rw [size_list]; unfold maxLen at hs; omega) (by rw [size_list]; unfold maxLen at hs; omega) (by rw [size_list]; unfold maxLen at hs; omega)
  rw [T_of, T_of, T_of] at h
  exact h

/-- A [3]string that came in: its value written out. -/
theorem open_s3 {H : Type} {enc : TypeId × Value → H} {P : Program} {W : World} {r : Reach} {b0 base : Nat} {spare : Nat → Bool} {held : Bool} {t e : TypeId} {v : Value} {d : DataW H} {p : List MemPlace}
    (ht : P.underlying t = some (.array 3 e)) (he : P.underlying e = some .string) (hc : P.cellsOf t = 3) (hce : P.cellsOf e = 1)
    (hv : Value.okWide P W r b0 t v) (h : DataW.Trod enc P W base spare held t v d p) :
    ∃ a b c : ByteArray, v = .agg #[.string a, .string b, .string c] ∧ a.size ≤ maxLen ∧ b.size ≤ maxLen ∧ c.size ≤ maxLen := by
  simp only [Value.okWide, ht] at hv
  obtain ⟨cs, rfl, hsz, _⟩ := hv
  obtain ⟨fuel, hf⟩ := h
  obtain ⟨c0, c1, c2, rfl⟩ : ∃ c0 c1 c2, cs = #[c0, c1, c2] := by
    rw [hc] at hsz
    obtain ⟨l⟩ := cs
    match l, hsz with
    | [a, b, c], _ => exact ⟨a, b, c, rfl⟩
  obtain ⟨xs, m, _, _, _, hn, hel⟩ := DataW.trod_array ht hf
  rw [hce] at hel
  have g0 := hel 0 (by omega)
  have g1 := hel 1 (by omega)
  have g2 := hel 2 (by omega)
  simp only [Value.cells, List.drop_zero, Nat.mul_one, List.drop_succ_cons, List.take_succ_cons, List.take_zero] at g0 g1 g2
  rw [List.getElem?_eq_getElem (by omega)] at g0 g1 g2
  obtain ⟨a, ha, _, ha2⟩ := DataW.trod_string he g0
  obtain ⟨b, hb, _, hb2⟩ := DataW.trod_string he g1
  obtain ⟨c, hc, _, hc2⟩ := DataW.trod_string he g2
  simp only [List.cons.injEq, and_true] at ha hb hc
  subst ha hb hc
  exact ⟨a, b, c, rfl, ha2, hb2, hc2⟩
end Go.Proofs.Ytmcafgimagpaaaa
