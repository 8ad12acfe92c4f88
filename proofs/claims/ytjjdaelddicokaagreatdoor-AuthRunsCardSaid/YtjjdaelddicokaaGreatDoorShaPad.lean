/- What hash.pad returns: Sha.pad. Conditions: a text of at most 2^40 bytes. -/
import Derived.Test.YtjjdaelddicokaaGreatDoorBuild
set_option linter.unusedVariables false
namespace Go.Proofs.YtjjdaelddicokaaGreatDoor
open Go.RowKit

abbrev IsB (B b : Nat) (l : List UInt8) (w : World) : Prop := Lib.IsBuilder 97 5 B b (Lib.byteCells l) w
/-- The length of a builder's buffer. -/
def blen (b : Nat) (w : World) : Nat := match w.cell? ⟨b, 1, none⟩ with | some (.slice _ n _) => n | _ => 0
theorem blen_of {B b : Nat} {l : List UInt8} {w : World} (h : IsB B b l w) : blen b w = l.length := by
  obtain ⟨p, hB, v, hbk, hown, hne⟩ : ∃ p, Lib.BuilderAt 97 5 B b p (Lib.byteCells l) w := by
    rcases h with h | h
    · exact ⟨_, h⟩
    · exact ⟨_, h⟩
  have c1 : w.cell? ⟨b, 1, none⟩ = some v := by rw [Lib.cell_of_heap hbk]; rfl
  unfold blen
  rw [c1]
  rcases hown.2 with ⟨hv, h0⟩ | ⟨g, cap, cur, hv, _⟩
  · rw [hv]; rw [Lib.byteCells_length] at h0; exact h0.symm
  · rw [hv]; exact Lib.byteCells_length l
theorem wb_any (B b : Nat) (l : List UInt8) (c : UInt8) (z : Int) (hz : z = (c.toNat : Int)) (w : World) (h : IsB B b l w) (hlen : l.length ≤ 1099511627776) (hBw : B ≤ w.heap.size) :
    Calls Tryz.prog 96 #[.pointer (some ⟨b, 0, none⟩), .int .u8 z] w fun e w' => e = .returned .nilIface ∧ (IsB B b (l ++ [c]) w' ∧ Below B w w') := by
  refine (wbyte_any B b (Lib.byteCells l) z w h (by rw [Lib.byteCells_length]; omega) hBw).mono ?_
  rintro e w' ⟨he, h1, h2⟩
  refine ⟨he, ?_, h2⟩
  unfold IsB
  rw [Lib.byteCells_append]
  subst hz
  exact h1
theorem blen_any (B b : Nat) (l : List UInt8) (w : World) (h : IsB B b l w) :
    Calls Tryz.prog 97 #[.pointer (some ⟨b, 0, none⟩)] w fun e w' => e = .returned (.int .i64 (l.length : Int)) ∧ w' = w := by
  have := Builder_Len B b (Lib.byteCells l) w h
  rw [Lib.byteCells_length] at this
  exact this

theorem shr_byte (n k : Nat) (hk : k < 8) : (8 * (n : Int)) / 2 ^ (56 - 8 * k) % 256 = ((UInt8.ofNat (8 * n / 256 ^ (7 - k))).toNat : Int) := by
  have e : (2 : Int) ^ (56 - 8 * k) = ((256 ^ (7 - k) : Nat) : Int) := by
    have : 56 - 8 * k = 8 * (7 - k) := by omega
    rw [this, Int.natCast_pow, Int.pow_mul]; rfl
  rw [e, UInt8.toNat_ofNat']
  have e2 : (8 * (n : Int)) = ((8 * n : Nat) : Int) := by omega
  rw [e2]
  generalize 256 ^ (7 - k) = d
  generalize 8 * n = m
  rw [← Int.natCast_ediv]
  omega
theorem be_next (n k : Nat) (hk : k < 8) : Sha.be (k + 1) (n / 256 ^ (8 - (k + 1))) = Sha.be k (n / 256 ^ (8 - k)) ++ [UInt8.ofNat (n / 256 ^ (7 - k))] := by
  have e1 : 8 - (k + 1) = 7 - k := by omega
  have e2 : 256 ^ (8 - k) = 256 ^ (7 - k) * 256 := by rw [show 8 - k = (7 - k) + 1 from by omega, Nat.pow_succ]
  rw [e1, e2, ← Nat.div_div_eq_div_mul]
  rfl

set_option maxRecDepth 100000 in
set_option maxHeartbeats 2000000 in
theorem pad_any (s : ByteArray) (w : World) (hs : s.size ≤ 1000000000) :
    Calls Tryz.prog 87 #[.string s] w fun e w' => e = .returned (.string (T (Sha.pad s.data.toList))) ∧ Below w.heap.size w w' := by
  have hn : s.data.toList.length = s.size := by simp
  go_enter Tryz.func87, Tryz.ntmps87
  go_wp2_with fail
  have h0 : IsB w.heap.size w.heap.size [] (w.alloc (.cells #[.pointer none, .slice none 0 0] 97)) := Lib.fresh_isBuilder 97 5 w
  have hb0 : Below w.heap.size w (w.alloc (.cells #[.pointer none, .slice none 0 0] 97)) := (Below.refl _ _).alloc (Nat.le_refl _) _
  refine (wstring_any w.heap.size w.heap.size [] s _ h0 (by simp; omega) (by simp)).mono ?_
  rintro e w1 ⟨rfl, h1, hb1⟩
  have hb := hb0.trans hb1
  replace h1 : IsB w.heap.size w.heap.size s.data.toList w1 := h1
  clear h0 hb0 hb1
  go_wp2_with fail
  refine (wb_any w.heap.size w.heap.size _ 128 128 rfl w1 h1 (by omega) hb.size).mono ?_
  rintro e w2 ⟨rfl, h2, hb2⟩
  replace hb := hb.trans hb2
  clear h1 hb2
  go_wp2_with fail
  go_loopw [] (fun wr => ∃ k : Nat, k ≤ Sha.zer s.size ∧ IsB w.heap.size w.heap.size (s.data.toList ++ [128] ++ List.replicate k 0) wr ∧ Below w.heap.size w wr) (fun wr => s.size + 1 + Sha.zer s.size - blen w.heap.size wr)
  case atStart => exact ⟨0, Nat.zero_le _, by simpa using h2, hb⟩
  case round =>
    obtain ⟨k, hk, h3, hb3⟩ := hrel
    have hm3 := blen_of h3
    have hz : Sha.zer s.size = (119 - s.size % 64) % 64 := rfl
    have hL : (s.data.toList ++ [128] ++ List.replicate k 0).length = s.size + 1 + k := by simp; omega
    have HC := Lib.hid (blen_any w.heap.size w.heap.size _ wr h3)
    rw [hL] at HC hm3
    have HM := Lib.hid hm3
    clear hm3
    by_cases hlt : k < Sha.zer s.size
    · have HW := Lib.hid (wb_any w.heap.size w.heap.size _ 0 0 rfl wr h3 (by rw [hL]; omega) hb3.size)
      have hm : ¬ ((s.size + 1 + k : Nat) : Int) % 64 = 56 := by omega
      generalize hLL : s.size + 1 + k = L at *
      have HB := Lib.hid hb3
      have H3 := Lib.hid h3
      clear h3 hb3 hb h2 hL hz
      go_wp2_with fail
      refine HC.out.mono ?_; rintro e w' ⟨rfl, rfl⟩
      go_wp2_with fail
      refine HW.out.mono ?_; rintro e w4 ⟨rfl, h4, hb4⟩
      go_wp2_with fail
      go_roundw
      case rel =>
        refine ⟨k + 1, by omega, ?_, HB.out.trans hb4⟩
        rw [List.replicate_succ', ← List.append_assoc]
        exact h4
      case measure =>
        rw [blen_of h4, HM.out]
        simp
        omega
    · obtain rfl : k = Sha.zer s.size := by omega
      have hm : ((s.size + 1 + Sha.zer s.size : Nat) : Int) % 64 = 56 := by omega
      generalize hLL : s.size + 1 + Sha.zer s.size = L at *
      have hP : Sha.pad s.data.toList = s.data.toList ++ [128] ++ List.replicate (Sha.zer s.size) 0 ++ Sha.be 8 (8 * s.size) := by
        unfold Sha.pad; rw [hn, Nat.mod_eq_of_lt (by omega)]
      generalize s.data.toList ++ [128] ++ List.replicate (Sha.zer s.size) 0 = pre at *
      have HB := Lib.hid hb3
      have H3 := Lib.hid h3
      have HP := Lib.hid hP
      have hpre : pre.length ≤ 1000000200 := by omega
      clear h3 hb3 hb h2 hz hP
      go_wp2_with fail
      refine HC.out.mono ?_; rintro e w' ⟨rfl, rfl⟩
      go_wp2_with fail
      clear HC HM hm hLL hL hlt hk
      go_loopw [5] (fun i wr => ∃ k : Nat, k ≤ 8 ∧ i = .int .i64 (56 - 8 * (k : Int)) ∧ IsB w.heap.size w.heap.size (pre ++ Sha.be k (8 * s.size / 256 ^ (8 - k))) wr ∧ Below w.heap.size w wr) (fun i _ => (intOf i + 8).toNat)
      case atStart => exact ⟨0, Nat.zero_le _, rfl, by simpa [Sha.be] using H3.out, HB.out⟩
      case round =>
        obtain ⟨k, hk, rfl, h4, hb4⟩ := hrel
        by_cases hlt : k < 8
        · have hc : (0 : Int) ≤ 56 - 8 * (k : Int) := by omega
          have hc2 : (56 - 8 * (k : Int)).toNat = 56 - 8 * k := by omega
          generalize hi : (56 - 8 * (k : Int)) = i at *
          have H4 := Lib.hid h4
          have HB4 := Lib.hid hb4
          clear h4 hb4
          go_wp2_with fail
          refine (wb_any w.heap.size w.heap.size _ (UInt8.ofNat (8 * s.size / 256 ^ (7 - k))) _ (shr_byte s.size k hlt) wr H4.out (by simp [Sha.be_length]; omega) HB4.out.size).mono ?_
          rintro e w5 ⟨rfl, h5, hb5⟩
          go_wp2_with fail
          go_roundw
          case rel =>
            refine ⟨k + 1, by omega, ?_, ?_, HB4.out.trans hb5⟩
            · rw [← hi]; go_num
            · rw [be_next _ k hlt, ← List.append_assoc]
              exact h5
          case measure => simp [intOf]; omega
        · obtain rfl : k = 8 := by omega
          have e : (56 - 8 * ((8 : Nat) : Int)) = -8 := rfl
          rw [e]
          have hp : pre ++ Sha.be 8 (8 * s.size / 256 ^ (8 - 8)) = Sha.pad s.data.toList := by rw [HP.out]; simp
          rw [hp] at h4
          have HS := Lib.hid (Builder_String_any w.heap.size w.heap.size _ wr h4 hb4.size)
          have HB4 := Lib.hid hb4
          clear h4 hb4 hp
          go_wp2_with fail
          refine HS.out.mono ?_; rintro e w6 ⟨rfl, hb6⟩
          go_wp2_with fail
          go_ret
          exact ⟨rfl, HB4.out.trans hb6⟩
end Go.Proofs.YtjjdaelddicokaaGreatDoor
