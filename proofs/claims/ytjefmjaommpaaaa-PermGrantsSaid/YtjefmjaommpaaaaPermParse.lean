/- What perm.letter, perm.Parse and the reference's Parse return: Prm.prs. Conditions: the text is not too long to be counted. -/
import Derived.Test.YtjefmjaommpaaaaPermRText
import Derived.Deep.DeepCutAuto
import Derived.Deep.CutBlock
set_option linter.unusedVariables false
set_option linter.unusedSimpArgs false
namespace Go.Proofs.Ytjefmjaommpaaaa
open Go.RowKit
namespace Prm
def LetSays (o : Option Int) (w : World) (e : Ending) (w' : World) : Prop := e = .returned (.tuple #[.int .i64 (o.getD 0), .bool o.isSome]) ∧ w = w'
theorem let_some {o : Option Int} {v : Int} (w : World) (h : o = some v) : LetSays o w (.returned (.tuple #[.int .i64 v, .bool true])) w := by rw [h]; exact ⟨rfl, rfl⟩
theorem let_none {o : Option Int} (w : World) (h : o = none) : LetSays o w (.returned (.tuple #[.int .i64 0, .bool false])) w := by rw [h]; exact ⟨rfl, rfl⟩
end Prm
theorem letter_any (m : Int) (c want : UInt8) (b : Int) (hb : -9223372036854775808 ≤ m + b ∧ m + b ≤ 9223372036854775807) (x y : Int) (hx : x = (c.toNat : Int)) (hy : y = (want.toNat : Int)) (w : World) :
    Calls Try.prog 23 #[.int .i64 m, .int .u8 x, .int .u8 y, .int .i64 b] w (Prm.LetSays (Prm.fl m c want b) w) := by
  by_cases h : c = want
  · have HF := Lib.hid (fun w => Prm.let_some w (show Prm.fl m c want b = some (m + b) from by unfold Prm.fl; rw [if_pos h]))
    have e : (x == y) = true := by rw [hx, hy, h]; simp
    clear hx hy h
    go_enter Try.func23, Try.ntmps23
    go_wp2
    go_ret2
    exact HF.out _
  · have e : (x == y) = false := by rw [hx, hy, beq_eq_false_iff_ne]; intro h'; exact h (UInt8.toNat_inj.1 (by omega))
    by_cases h4 : c = 45
    · have HF := Lib.hid (fun w => Prm.let_some w (show Prm.fl m c want b = some m from by unfold Prm.fl; rw [if_neg h, if_pos h4]))
      have e2 : (x == 45) = true := by rw [hx, h4]; rfl
      clear hx hy h h4
      go_enter Try.func23, Try.ntmps23
      go_wp2
      go_ret2
      exact HF.out _
    · have HF := Lib.hid (fun w => Prm.let_none w (show Prm.fl m c want b = none from by unfold Prm.fl; rw [if_neg h, if_neg h4]))
      have e2 : (x == 45) = false := by rw [hx, beq_eq_false_iff_ne]; intro h'; exact h4 (UInt8.toNat_inj.1 (by have : (45 : UInt8).toNat = 45 := rfl; omega))
      clear hx hy h h4
      go_enter Try.func23, Try.ntmps23
      go_wp2
      go_ret2
      exact HF.out _
namespace Prm
def ParSays (s : ByteArray) (w : World) (e : Ending) (w' : World) : Prop :=
  e = .returned (.tuple #[.int .i64 ((prs s.data.toList).getD 0), .int .i64 (if (prs s.data.toList).isSome then 0 else 2)]) ∧ Below w.heap.size w w'
theorem par_none {s : ByteArray} {w w' : World} (h : prs s.data.toList = none) (hb : Below w.heap.size w w') : ParSays s w (.returned (.tuple #[.int .i64 0, .int .i64 2])) w' := by
  unfold ParSays; rw [h]; exact ⟨rfl, hb⟩
theorem par_some {s : ByteArray} {m : Int} {w w' : World} (h : prs s.data.toList = some m) (hb : Below w.heap.size w w') : ParSays s w (.returned (.tuple #[.int .i64 m, .int .i64 0])) w' := by
  unfold ParSays; rw [h]; exact ⟨rfl, hb⟩
theorem pre_none (l : List UInt8) (k : Nat) (h : pre l k = none) : ∀ j, pre l (k + j) = none := by
  intro j
  induction j with
  | zero => exact h
  | succ j ih => rw [← Nat.add_assoc, pre, ih]; rfl
theorem pre_bd (l : List UInt8) : ∀ (k : Nat) (m : Int), pre l k = some m → 0 ≤ m ∧ m ≤ k * 2147483648 := by
  intro k
  induction k with
  | zero => intro m h; have : (0 : Int) = m := Option.some.inj h; omega
  | succ k ih =>
    intro m h
    rw [pre, Option.bind_eq_some_iff] at h
    obtain ⟨m', h1, h2⟩ := h
    have := ih m' h1
    by_cases k0 : k = 0
    · rw [if_pos k0] at h2
      obtain ⟨d, a, q, e, _⟩ := f0_some h2
      omega
    · rw [if_neg k0] at h2
      by_cases k1 : k = 1
      · rw [if_pos k1] at h2
        obtain ⟨t, q, e, _⟩ := fl_some h2
        omega
      · rw [if_neg k1] at h2
        obtain ⟨t, q, e, _⟩ := fl_some h2
        have hp : (1 : Int) ≤ 2 ^ (10 - k) ∧ (2 : Int) ^ (10 - k) ≤ 1024 := by
          have a : 2 ^ (10 - k) ≤ 2 ^ 10 := Nat.pow_le_pow_right (by decide) (by omega)
          have b : 1 ≤ 2 ^ (10 - k) := Nat.one_le_two_pow
          have e : (2 : Int) ^ (10 - k) = ((2 ^ (10 - k) : Nat) : Int) := by simp
          rw [e]; omega
        have ht : t = 0 ∨ t = 1 := by omega
        generalize (2 : Int) ^ (10 - k) = y at *
        rcases ht with rfl | rfl
        · rw [Int.mul_zero] at e; omega
        · rw [Int.mul_one] at e; omega
theorem f0_97 {c : UInt8} (h : c = 97) : f0 c = some 1073741824 := by unfold f0; rw [if_pos h]
theorem f0_n97 {c : UInt8} (h : c ≠ 97) : f0 c = fl 0 c 100 2147483648 := by unfold f0 fl; rw [if_neg h, Int.zero_add]
theorem getD_byte (s : ByteArray) (k : Nat) (h : k < s.size) : s.data.toList.getD k 0 = s[k] := by
  have h' : k < s.data.toList.length := by simpa using h
  rw [List.getD_eq_getElem?_getD, List.getElem?_eq_getElem h']
  rfl
end Prm

theorem parse_bad (s : ByteArray) (w : World) (hs : s.size ≤ 9223372036854775807) (h : ¬ s.size = 11) : Calls Try.prog 10 #[.string s] w (Prm.ParSays s w) := by
  have HF := Lib.hid (Prm.par_none (s := s) (w := w) (by unfold Prm.prs; rw [if_neg (by simpa using h)]) (Below.refl _ w))
  have h1 : ((s.size : Int) != 11) = true := by rw [bne_iff_ne]; omega
  clear h
  go_enter Try.func10, Try.ntmps10
  go_wp2
  go_ret2
  exact HF.out
set_option maxHeartbeats 4000000 in
theorem parse_11 (s : ByteArray) (w : World) (h : s.size = 11) : Calls Try.prog 10 #[.string s] w (Prm.ParSays s w) := by
  have h1 : ((s.size : Int) != 11) = false := by rw [bne_eq_false_iff_eq]; omega
  have hi : (s.size : Int) ≤ 11 ∧ (11 : Int) ≤ s.size := by omega
  have hlt : ∀ k, k < 11 → k < s.size := fun k hk => by omega
  obtain ⟨P, hP⟩ : ∃ P : Nat → Option Int, P = Prm.pre s.data.toList := ⟨_, rfl⟩
  have HR := Lib.hid (show Prm.prs s.data.toList = P 11 from by unfold Prm.prs; rw [if_pos (by simpa using h), hP])
  have HN := Lib.hid (show ∀ k, P k = none → ∀ j, P (k + j) = none from by rw [hP]; exact Prm.pre_none _)
  have HBD := Lib.hid (show ∀ k m, P k = some m → 0 ≤ m ∧ m ≤ k * 2147483648 from by rw [hP]; exact Prm.pre_bd _)
  have HB0 := Lib.hid (show P 1 = Prm.f0 (s[0]'(hlt 0 (by omega))) from by rw [hP]; simp only [Prm.pre, Option.bind_some, if_true]; rw [Prm.getD_byte s 0 (hlt 0 (by omega))])
  have HB1 := Lib.hid (show P 2 = (P 1).bind fun m => Prm.fl m (s[1]'(hlt 1 (by omega))) 108 536870912 from by rw [hP, Prm.pre, Prm.getD_byte s 1 (hlt 1 (by omega))]; rfl)
  have HBK := Lib.hid (show ∀ k (hk : k < 11), 2 ≤ k → P (k + 1) = (P k).bind fun m => Prm.fl m (s[k]'(hlt k hk)) (Prm.rwx (10 - k)) (2 ^ (10 - k)) from fun k hk h2 => by
    rw [hP, Prm.pre, Prm.getD_byte s k (hlt k hk)]; congr 1; funext m; rw [if_neg (by omega), if_neg (by omega)])
  clear hP h
  have H0 := Lib.hid (fun w => letter_any 0 (s[0]'(hlt 0 (by omega))) 100 2147483648 (by omega) _ _ rfl rfl w)
  go_enter Try.func10, Try.ntmps10
  go_upto_if 18 with (refine (H0.out _).mono ?_; rintro e w1 ⟨rfl, rfl⟩)
  go_cut [4, 5] (fun m o w' => (m = .int .i64 ((P 1).getD 0) ∧ o = .bool (P 1).isSome) ∧ w = w')
  case first =>
    by_cases hc : s[0]'(hlt 0 (by omega)) = 97
    · have e97 : (((s[0]'(hlt 0 (by omega))).toNat : Int) == 97) = true := by rw [hc]; rfl
      have HE := Lib.hid (HB0.out.trans (Prm.f0_97 hc))
      clear hc
      go_wp2_with fail
      go_meet
      exact ⟨⟨by rw [HE.out]; rfl, by rw [HE.out]; rfl⟩, rfl⟩
    · have e97 : (((s[0]'(hlt 0 (by omega))).toNat : Int) == 97) = false := by
        rw [beq_eq_false_iff_ne]; intro h'; exact hc (UInt8.toNat_inj.1 (by have : (97 : UInt8).toNat = 97 := rfl; omega))
      have HE := Lib.hid (HB0.out.trans (Prm.f0_n97 hc))
      clear hc
      go_wp2_with fail
      go_meet
      exact ⟨⟨by rw [HE.out], by rw [HE.out]⟩, rfl⟩
  case rest =>
    obtain ⟨⟨rfl, rfl⟩, rfl⟩ := hcut
    go_wp2_with fail
    go_loopw [4, 5, 6] (fun m o i wr => ∃ k : Nat, 1 ≤ k ∧ k ≤ 11 ∧ i = .int .i64 (k : Int) ∧ m = .int .i64 ((P k).getD 0) ∧ o = .bool (P k).isSome ∧ Below w.heap.size w wr) (fun _ _ i _ => (11 - intOf i).toNat)
    case atStart => exact ⟨1, by omega, by omega, rfl, rfl, rfl, Below.refl _ _⟩
    case round =>
      obtain ⟨k, hk1, hk2, rfl, rfl, rfl, hb⟩ := hrel
      have HB := Lib.hid hb
      clear hb
      cases hp : P k with
      | none =>
        have HE := Lib.hid (show Prm.prs s.data.toList = none from by rw [HR.out, show 11 = k + (11 - k) from by omega]; exact HN.out k hp _)
        clear hp
        simp only [Option.getD_none, Option.isSome_none]
        by_cases hk : k < 11
        all_goals
          go_wp2_with fail
          go_ret2
          exact Prm.par_none HE.out HB.out
      | some m =>
        have hbd := HBD.out k m hp
        simp only [Option.getD_some, Option.isSome_some]
        by_cases hk : k < 11
        · by_cases hk0 : k = 1
          · subst hk0
            have HE := Lib.hid (show P 2 = Prm.fl m (s[1]'(hlt 1 (by omega))) 108 536870912 from by rw [HB1.out, hp]; rfl)
            have HC := Lib.hid (fun w => letter_any m (s[1]'(hlt 1 (by omega))) 108 536870912 (by omega) _ _ rfl rfl w)
            clear hp
            go_wp2_with fail
            refine (HC.out _).mono ?_; rintro e w1 ⟨rfl, rfl⟩
            rw [← HE.out]
            go_wp2_with fail
            go_roundw
            case rel => exact ⟨2, by omega, by omega, rfl, rfl, rfl, HB.out⟩
            case measure => simp [intOf]
          · have hk3 : 2 ≤ k := by omega
            have HE := Lib.hid (show P (k + 1) = Prm.fl m (s[k]'(hlt k hk)) (Prm.rwx (10 - k)) (2 ^ (10 - k)) from by rw [HBK.out k hk hk3, hp]; rfl)
            clear hp hk0
            have hkc : k = 2 ∨ k = 3 ∨ k = 4 ∨ k = 5 ∨ k = 6 ∨ k = 7 ∨ k = 8 ∨ k = 9 ∨ k = 10 := by omega
            rcases hkc with rfl | rfl | rfl | rfl | rfl | rfl | rfl | rfl | rfl
            · have HC := Lib.hid (fun n => Calls.quiet_of_same ((letter_any m (s[2]'(hlt 2 (by omega))) (Prm.rwx 8) 256 (by omega) _ 114 rfl rfl (wr.drewN n)).mono fun _ _ h => ⟨h.1, h.2.symm⟩))
              have HG := Lib.hid (show Prm.fl m (s[2]'(hlt 2 (by omega))) (Prm.rwx 8) 256 = P 3 from HE.out.symm)
              clear HE
              go_wp2_with fail
              go_quiet ((go_at_call 23; exact HC.out _))
              rw [HG.out]
              go_wp2_with fail
              go_roundw
              case rel => exact ⟨3, by omega, by omega, rfl, rfl, rfl, below_drewN HB.out _⟩
              case measure => simp [intOf]
            · have HC := Lib.hid (fun n => Calls.quiet_of_same ((letter_any m (s[3]'(hlt 3 (by omega))) (Prm.rwx 7) 128 (by omega) _ 119 rfl rfl (wr.drewN n)).mono fun _ _ h => ⟨h.1, h.2.symm⟩))
              have HG := Lib.hid (show Prm.fl m (s[3]'(hlt 3 (by omega))) (Prm.rwx 7) 128 = P 4 from HE.out.symm)
              clear HE
              go_wp2_with fail
              go_quiet ((go_at_call 23; exact HC.out _))
              rw [HG.out]
              go_wp2_with fail
              go_roundw
              case rel => exact ⟨4, by omega, by omega, rfl, rfl, rfl, below_drewN HB.out _⟩
              case measure => simp [intOf]
            · have HC := Lib.hid (fun n => Calls.quiet_of_same ((letter_any m (s[4]'(hlt 4 (by omega))) (Prm.rwx 6) 64 (by omega) _ 120 rfl rfl (wr.drewN n)).mono fun _ _ h => ⟨h.1, h.2.symm⟩))
              have HG := Lib.hid (show Prm.fl m (s[4]'(hlt 4 (by omega))) (Prm.rwx 6) 64 = P 5 from HE.out.symm)
              clear HE
              go_wp2_with fail
              go_quiet ((go_at_call 23; exact HC.out _))
              rw [HG.out]
              go_wp2_with fail
              go_roundw
              case rel => exact ⟨5, by omega, by omega, rfl, rfl, rfl, below_drewN HB.out _⟩
              case measure => simp [intOf]
            · have HC := Lib.hid (fun n => Calls.quiet_of_same ((letter_any m (s[5]'(hlt 5 (by omega))) (Prm.rwx 5) 32 (by omega) _ 114 rfl rfl (wr.drewN n)).mono fun _ _ h => ⟨h.1, h.2.symm⟩))
              have HG := Lib.hid (show Prm.fl m (s[5]'(hlt 5 (by omega))) (Prm.rwx 5) 32 = P 6 from HE.out.symm)
              clear HE
              go_wp2_with fail
              go_quiet ((go_at_call 23; exact HC.out _))
              rw [HG.out]
              go_wp2_with fail
              go_roundw
              case rel => exact ⟨6, by omega, by omega, rfl, rfl, rfl, below_drewN HB.out _⟩
              case measure => simp [intOf]
            · have HC := Lib.hid (fun n => Calls.quiet_of_same ((letter_any m (s[6]'(hlt 6 (by omega))) (Prm.rwx 4) 16 (by omega) _ 119 rfl rfl (wr.drewN n)).mono fun _ _ h => ⟨h.1, h.2.symm⟩))
              have HG := Lib.hid (show Prm.fl m (s[6]'(hlt 6 (by omega))) (Prm.rwx 4) 16 = P 7 from HE.out.symm)
              clear HE
              go_wp2_with fail
              go_quiet ((go_at_call 23; exact HC.out _))
              rw [HG.out]
              go_wp2_with fail
              go_roundw
              case rel => exact ⟨7, by omega, by omega, rfl, rfl, rfl, below_drewN HB.out _⟩
              case measure => simp [intOf]
            · have HC := Lib.hid (fun n => Calls.quiet_of_same ((letter_any m (s[7]'(hlt 7 (by omega))) (Prm.rwx 3) 8 (by omega) _ 120 rfl rfl (wr.drewN n)).mono fun _ _ h => ⟨h.1, h.2.symm⟩))
              have HG := Lib.hid (show Prm.fl m (s[7]'(hlt 7 (by omega))) (Prm.rwx 3) 8 = P 8 from HE.out.symm)
              clear HE
              go_wp2_with fail
              go_quiet ((go_at_call 23; exact HC.out _))
              rw [HG.out]
              go_wp2_with fail
              go_roundw
              case rel => exact ⟨8, by omega, by omega, rfl, rfl, rfl, below_drewN HB.out _⟩
              case measure => simp [intOf]
            · have HC := Lib.hid (fun n => Calls.quiet_of_same ((letter_any m (s[8]'(hlt 8 (by omega))) (Prm.rwx 2) 4 (by omega) _ 114 rfl rfl (wr.drewN n)).mono fun _ _ h => ⟨h.1, h.2.symm⟩))
              have HG := Lib.hid (show Prm.fl m (s[8]'(hlt 8 (by omega))) (Prm.rwx 2) 4 = P 9 from HE.out.symm)
              clear HE
              go_wp2_with fail
              go_quiet ((go_at_call 23; exact HC.out _))
              rw [HG.out]
              go_wp2_with fail
              go_roundw
              case rel => exact ⟨9, by omega, by omega, rfl, rfl, rfl, below_drewN HB.out _⟩
              case measure => simp [intOf]
            · have HC := Lib.hid (fun n => Calls.quiet_of_same ((letter_any m (s[9]'(hlt 9 (by omega))) (Prm.rwx 1) 2 (by omega) _ 119 rfl rfl (wr.drewN n)).mono fun _ _ h => ⟨h.1, h.2.symm⟩))
              have HG := Lib.hid (show Prm.fl m (s[9]'(hlt 9 (by omega))) (Prm.rwx 1) 2 = P 10 from HE.out.symm)
              clear HE
              go_wp2_with fail
              go_quiet ((go_at_call 23; exact HC.out _))
              rw [HG.out]
              go_wp2_with fail
              go_roundw
              case rel => exact ⟨10, by omega, by omega, rfl, rfl, rfl, below_drewN HB.out _⟩
              case measure => simp [intOf]
            · have HC := Lib.hid (fun n => Calls.quiet_of_same ((letter_any m (s[10]'(hlt 10 (by omega))) (Prm.rwx 0) 1 (by omega) _ 120 rfl rfl (wr.drewN n)).mono fun _ _ h => ⟨h.1, h.2.symm⟩))
              have HG := Lib.hid (show Prm.fl m (s[10]'(hlt 10 (by omega))) (Prm.rwx 0) 1 = P 11 from HE.out.symm)
              clear HE
              go_wp2_with fail
              go_quiet ((go_at_call 23; exact HC.out _))
              rw [HG.out]
              go_wp2_with fail
              go_roundw
              case rel => exact ⟨11, by omega, by omega, rfl, rfl, rfl, below_drewN HB.out _⟩
              case measure => simp [intOf]
        · obtain rfl : k = 11 := by omega
          have HE := Lib.hid (show Prm.prs s.data.toList = some m from by rw [HR.out]; exact hp)
          clear hp hk
          go_wp2_with fail
          go_ret2
          exact Prm.par_some HE.out HB.out
end Go.Proofs.Ytjefmjaommpaaaa
