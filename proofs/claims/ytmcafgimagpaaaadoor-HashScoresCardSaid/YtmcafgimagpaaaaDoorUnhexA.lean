/- What octet.Unhex and the reference's Unhex, Hex return: Oct.unhex, Oct.hex. Conditions: the text is short enough for its digits to be counted. -/
import Derived.Test.YtmcafgimagpaaaaDoorHexA
set_option linter.unusedVariables false
namespace Go.Proofs.YtmcafgimagpaaaaDoor
open Go.RowKit
namespace Oct
theorem unhex_append (n : Nat) : ∀ (l m : List UInt8), l.length = 2 * n → unhex (l ++ m) = (unhex l).bind fun x => (unhex m).map (x ++ ·) := by
  induction n with
  | zero =>
    intro l m h
    have : l = [] := List.eq_nil_of_length_eq_zero (by omega)
    subst this
    simp [unhex]
  | succ n ih =>
    intro l m h
    match l, h with
    | a :: b :: t, h =>
      have ht := ih t m (by simp at h; omega)
      rw [List.cons_append, List.cons_append, unhex, unhex, ht]
      split
      · rfl
      · cases unhex t <;> cases unhex m <;> rfl
theorem unhex_bad (n : Nat) (s : List UInt8) (h : 2 * n + 1 < s.length) (hv : val (s[2 * n]'(by omega)) < 0 ∨ val s[2 * n + 1] < 0) : unhex s = none := by
  have e : s = s.take (2 * n) ++ (s[2 * n]'(by omega) :: s[2 * n + 1] :: s.drop (2 * n + 2)) := by
    conv => lhs; rw [← List.take_append_drop (2 * n) s]
    rw [List.drop_eq_getElem_cons (by omega), List.drop_eq_getElem_cons (i := 2 * n + 1) h]
  rw [e, unhex_append n _ _ (by simp; omega), unhex, if_pos hv]
  cases unhex (s.take (2 * n)) <;> rfl
theorem unhex_step (n : Nat) (s acc : List UInt8) (h : 2 * n + 1 < s.length) (hv : ¬ (val (s[2 * n]'(by omega)) < 0 ∨ val s[2 * n + 1] < 0)) (ha : unhex (s.take (2 * n)) = some acc) :
    unhex (s.take (2 * (n + 1))) = some (acc ++ [UInt8.ofNat (val (s[2 * n]'(by omega)) * 16 + val s[2 * n + 1]).toNat]) := by
  have e : s.take (2 * (n + 1)) = s.take (2 * n) ++ [s[2 * n]'(by omega), s[2 * n + 1]] := by
    rw [show 2 * (n + 1) = 2 * n + 1 + 1 from by omega, take_snoc s (2 * n + 1) h, take_snoc s (2 * n) (by omega), List.append_assoc]
    rfl
  rw [e, unhex_append n _ _ (by simp; omega), ha, unhex, if_neg hv]
  rfl
end Oct

theorem or_nib (a b : Int) (a0 : 0 ≤ a) (a1 : a < 16) (b0 : 0 ≤ b) (b1 : b < 16) : bits BinOp.or IntKind.i64 (a * 16) b = a * 16 + b :=
  bits_join .i64 8 (by decide) (fun n h0 h1 => by rw [IntKind.wrap_i64]; omega) 4 _ _ (by omega) (by omega) (by omega) b0 (by omega) (by omega)

def UnhexSays (s : ByteArray) (w : World) (e : Ending) (w' : World) : Prop :=
  e = .returned (.tuple #[.string (T ((Oct.unhex s.data.toList).getD [])), .int .i64 (if (Oct.unhex s.data.toList).isSome then 0 else 2)]) ∧ Below w.heap.size w w'
theorem unhex_none {s : ByteArray} {w w' : World} (h : Oct.unhex s.data.toList = none) (hb : Below w.heap.size w w') : UnhexSays s w (.returned (.tuple #[.string (T []), .int .i64 2])) w' := by
  unfold UnhexSays; rw [h]; exact ⟨rfl, hb⟩
theorem unhex_some {s : ByteArray} {w w' : World} {l : List UInt8} (h : Oct.unhex s.data.toList = some l) (hb : Below w.heap.size w w') : UnhexSays s w (.returned (.tuple #[.string (T l), .int .i64 0])) w' := by
  unfold UnhexSays; rw [h]; exact ⟨rfl, hb⟩

set_option maxHeartbeats 400000 in
theorem unhex_odd (s : ByteArray) (w : World) (hs : s.size % 2 = 1) :
    Calls Tryd.prog 26 #[.string s] w (UnhexSays s w) := by
  have HF := Lib.hid (unhex_none (w := w) (Oct.unhex_odd s.data.toList (by rw [size_list]; exact hs)) (Below.refl _ w))
  have h1 : ((s.size : Int) % 2 != 0) = true := by rw [bne_iff_ne]; omega
  clear hs
  go_enter Tryd.func26, Tryd.ntmps26
  go_wp2
  go_ret2
  exact HF.out

set_option maxHeartbeats 800000 in
theorem unhex_even (s : ByteArray) (m : Nat) (w : World) (hs : s.size ≤ 70368744177664) (hm1 : 2 * m ≤ s.size) (hm2 : s.size ≤ 2 * m) :
    Calls Tryd.prog 26 #[.string s] w (UnhexSays s w) := by
  obtain ⟨i0, hi, hz0, hz1, hz2⟩ := info_parts info5
  have hsl := size_list s
  have h1 : ((s.size : Int) % 2 != 0) = false := by rw [bne_eq_false_iff_eq]; omega
  go_enter Tryd.func26, Tryd.ntmps26
  go_wp2_with (at_make; refine wpList_make_own _ rfl _ _ 28 rfl w.heap.size 5 i0 (.int .u8 0) 1 Tryd.underlying28 hi hz0 hz1 _ _ _ m rfl rfl (by omega) ?b1 ?b2 ?b3 ?_)
  case b1 => rw [hz2]; omega
  case b2 => unfold maxLen; omega
  case b3 => omega
  intro w1 hown hg
  go_wp2
  go_loopw [4, 5] (fun v i wr => ∃ (j : Nat) (acc : List UInt8), j ≤ m ∧ i = .int .i64 (2 * (j : Int)) ∧ v = .slice (some ⟨w.heap.size, 0, none⟩) j m ∧ wr.ownsRow w.heap.size 5 1 (.slice (some ⟨w.heap.size, 0, none⟩) j m) j (bys acc) ∧ Hid (Oct.unhex (s.data.toList.take (2 * j)) = some acc) ∧ Below w.heap.size w wr) (fun _ i _ => s.size - (intOf i).toNat)
  case atStart => exact ⟨0, [], by omega, rfl, rfl, by simpa [bys] using hown, rfl, (Below.refl _ _).grown hg (Nat.le_refl _) (by simp)⟩
  case round =>
    obtain ⟨j, acc, hj, rfl, rfl, hown, HU, hb⟩ := hrel
    by_cases hlt : j < m
    · have hi1 : 2 * j < s.size := by omega
      have hi2 : 2 * j + 1 < s.size := by omega
      have hi3 : (2 : Int) * j < s.size := by omega
      have hi4 : (2 : Int) * j + 1 < s.size := by omega
      have hi5 : (0 : Int) ≤ 2 * j := by omega
      have hi6 : (0 : Int) ≤ 2 * j + 1 := by omega
      have va := Oct.val_lt (s[2 * j])
      have vb := Oct.val_lt (s[2 * j + 1])
      have hw1 : IntKind.i64.wrap (2 * (j : Int) + 1) = 2 * (j : Int) + 1 := IntWalk.i64_in _ (by omega)
      have hcall := fun (n : Nat) (c : UInt8) => Calls.quiet_of_same ((value_any c (wr.drewN n)).mono fun _ _ h => ⟨h.1, h.2.symm⟩)
      have HC := Lib.hid hcall
      clear hcall
      by_cases hba : Oct.val s[2 * j] < 0
      · have HF := Lib.hid (fun nq => unhex_none (w := w) (w' := wr.drewN nq) (Oct.unhex_bad j s.data.toList (by rw [size_list]; exact hi2) (.inl hba)) (below_drewN hb nq))
        go_wp2
        go_quiet ((go_at_call 38; exact HC.out _ _))
        clear hw1
        go_wp2
        go_ret2
        exact HF.out _
      by_cases hbb : Oct.val s[2 * j + 1] < 0
      · have HF := Lib.hid (fun nq => unhex_none (w := w) (w' := wr.drewN nq) (Oct.unhex_bad j s.data.toList (by rw [size_list]; exact hi2) (.inr hbb)) (below_drewN hb nq))
        go_wp2
        go_quiet ((go_at_call 38; exact HC.out _ _))
        clear hw1
        go_wp2
        go_ret2
        exact HF.out _
      · have HS := Lib.hid (Oct.unhex_step j s.data.toList acc (by rw [size_list]; exact hi2) (fun h => h.elim hba hbb) HU.out)
        have hor := or_nib (Oct.val s[2 * j]) (Oct.val s[2 * j + 1]) (by omega) (by omega) (by omega) (by omega)
        go_wp2
        go_quiet ((go_at_call 38; exact HC.out _ _))
        clear hw1 HC
        have hown' : (wr.drewN nq).ownsRow w.heap.size 5 1 (.slice (some ⟨w.heap.size, 0, none⟩) j m) j (bys acc) := hown
        have hb' := below_drewN hb nq
        clear hown hb
        generalize wr.drewN nq = wq at *
        go_wp2_with (at_builtin; refine wpList_append_fits _ rfl _ _ 28 rfl w.heap.size 5 i0 1 Tryd.underlying28 hi hz1 w.heap.size j m _ rfl (hown'.alloc _) ⟨wq.heap.size, 0, none⟩ 1 1 (bys [UInt8.ofNat (Oct.val s[2 * j] * 16 + Oct.val s[2 * j + 1]).toNat]) rfl rfl ?_ (bys_oneCell _) (by omega) ?_)
        · rw [show bys [UInt8.ofNat (Oct.val s[2 * j] * 16 + Oct.val s[2 * j + 1]).toNat] = [.int .u8 (Oct.val s[2 * j] * 16 + Oct.val s[2 * j + 1])] from by simp [bys]; omega]
          exact World.news_of_block (t := 5) (fr := (0, 0)) (heap_alloc_new wq _)
        intro w2 hown2 hgrow2
        rw [← bys_append] at hown2
        have hb2 := (hb'.alloc hb'.size (.cells #[.int .u8 (Oct.val s[2 * j] * 16 + Oct.val s[2 * j + 1])] 5)).grown hgrow2 (Nat.le_trans hb'.size (by simp)) (by simp)
        go_wp2
        go_roundw
        case rel => exact ⟨j + 1, _, by omega, by go_num, rfl, hown2, HS.out, hb2⟩
        case measure => simp [intOf]; omega
    · obtain rfl : j = m := by omega
      have hl : acc.length = j := by have := hown.1; rw [bys_length] at this; omega
      have hcv := conv_own (src := 28) (dst := 9) Tryd.underlying28 Tryd.underlying5 Tryd.underlying9 (l := acc) (by rw [hl]; exact hown)
      have HF := Lib.hid (unhex_some (w := w) (w' := wr) (l := acc) (by have := HU.out; rwa [List.take_of_length_le (by rw [size_list]; omega)] at this) hb)
      clear hl
      go_wp2
      go_ret2
      exact HF.out

/-- octet.Unhex, whatever it is given. -/
theorem unhex_any (s : ByteArray) (w : World) (hs : s.size ≤ 70368744177664) : Calls Tryd.prog 26 #[.string s] w (UnhexSays s w) := by
  by_cases h : s.size % 2 = 1
  · exact unhex_odd s w h
  · exact unhex_even s (s.size / 2) w hs (by omega) (by omega)

end Go.Proofs.YtmcafgimagpaaaaDoor
