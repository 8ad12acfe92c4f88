/- What perm.Allows and the reference's Allows return: Prm.alw. Conditions: the list holds the given users; the mode and the rights are ints. -/
import Derived.Test.YtjefmjaommpaaaaMember
import Derived.Test.YtjefmjaommpaaaaPermHas
import Derived.Test.YtjefmjaommpaaaaPermInhM
import Derived.Deep.DeepCutAuto
set_option linter.unusedVariables false
set_option linter.unusedSimpArgs false
namespace Go.Proofs.Ytjefmjaommpaaaa
open Go.RowKit
namespace Prm
/-- The rights that are granted, as a number below 8. -/
def grN (mb ow : Bool) (a b c : Nat) : Nat := if ow then (if mb then a ||| b else a) ||| c else (if mb then a ||| b else a)
def alwN (mb ow : Bool) (m wt : Nat) : Bool := (grN mb ow (m % 8) (m / 8 % 8) (m / 64 % 8)) &&& wt == wt
def alw (mb ow : Bool) (m wt : Int) : Bool := if m < 0 ∨ wt < 0 ∨ 7 < wt then false else alwN mb ow m.toNat wt.toNat
theorem alw_bad {mb ow : Bool} {m wt : Int} (h : m < 0 ∨ wt < 0 ∨ 7 < wt) : alw mb ow m wt = false := if_pos h
theorem alw_nat {mb ow : Bool} {m wt : Nat} (h : wt ≤ 7) : alw mb ow m wt = alwN mb ow m wt := by unfold alw; rw [if_neg (by omega)]; simp
theorem or8 {a b : Nat} (ha : a < 8) (hb : b < 8) : a ||| b < 8 := Nat.or_lt_two_pow (n := 3) ha hb
theorem grN_lt {mb ow : Bool} {a b c : Nat} (ha : a < 8) (hb : b < 8) (hc : c < 8) : grN mb ow a b c < 8 := by
  unfold grN
  cases mb <;> cases ow <;> simp
  · exact ha
  · exact or8 ha hc
  · exact or8 ha hb
  · exact or8 (or8 ha hb) hc
theorem and_beq (g wt : Nat) (hg : g < 8) (hw : wt ≤ 7) : (bits .and .i64 (g : Int) (wt : Int) == (wt : Int)) = (g &&& wt == wt) := by
  rw [i64_and_nat g wt (by omega) (by omega), Bool.eq_iff_iff, beq_iff_eq, beq_iff_eq]
  omega
theorem or_nat (a b : Nat) (ha : a < 8) (hb : b < 8) : bits .or .i64 (a : Int) (b : Int) = ((a ||| b : Nat) : Int) := i64_or_nat a b (by omega) (by omega)
theorem m8 (m : Nat) : (m : Int) % 8 = ((m % 8 : Nat) : Int) := by omega
theorem m88 (m : Nat) : (m : Int) / 8 % 8 = ((m / 8 % 8 : Nat) : Int) := by omega
theorem m648 (m : Nat) : (m : Int) / 64 % 8 = ((m / 64 % 8 : Nat) : Int) := by omega
theorem alw_ff (m wt : Nat) (hw : wt ≤ 7) : (bits .and .i64 ((m : Int) % 8) (wt : Int) == (wt : Int)) = alwN false false m wt := by
  rw [m8, and_beq _ _ (by omega) hw]; rfl
theorem alw_tf (m wt : Nat) (hw : wt ≤ 7) : (bits .and .i64 (bits .or .i64 ((m : Int) % 8) ((m : Int) / 8 % 8)) (wt : Int) == (wt : Int)) = alwN true false m wt := by
  rw [m8, m88, or_nat _ _ (by omega) (by omega), and_beq _ _ (or8 (by omega) (by omega)) hw]; rfl
theorem alw_ft (m wt : Nat) (hw : wt ≤ 7) : (bits .and .i64 (bits .or .i64 ((m : Int) % 8) ((m : Int) / 64 % 8)) (wt : Int) == (wt : Int)) = alwN false true m wt := by
  rw [m8, m648, or_nat _ _ (by omega) (by omega), and_beq _ _ (or8 (by omega) (by omega)) hw]; rfl
theorem alw_tt (m wt : Nat) (hw : wt ≤ 7) : (bits .and .i64 (bits .or .i64 (bits .or .i64 ((m : Int) % 8) ((m : Int) / 8 % 8)) ((m : Int) / 64 % 8)) (wt : Int) == (wt : Int)) = alwN true true m wt := by
  rw [m8, m88, m648, or_nat _ _ (by omega) (by omega), or_nat _ _ (or8 (by omega) (by omega)) (by omega), and_beq _ _ (or8 (or8 (by omega) (by omega)) (by omega)) hw]; rfl
def own (a b : ByteArray) : Bool := if a = b then true else false
theorem own_t {a b : ByteArray} (h : a = b) : own a b = true := if_pos h
theorem own_f {a b : ByteArray} (h : ¬ a = b) : own a b = false := if_neg h
end Prm

theorem str_eq {a b : ByteArray} (h : a = b) : (a.toList == b.toList) = true := by rw [h]; simp
theorem allows_bad (v : Value) (nm uid gid : ByteArray) (m wt : Int) (w : World) (h : m < 0 ∨ wt < 0 ∨ 7 < wt) :
    Calls Try.prog 21 #[v, .string nm, .string uid, .string gid, .int .i64 m, .int .i64 wt] w fun e w' => e = .returned (.bool false) ∧ Below w.heap.size w w' := by
  have HB := Lib.hid (Below.refl w.heap.size w)
  by_cases h1 : m < 0
  · clear h
    go_enter Try.func21, Try.ntmps21
    go_wp2
    go_ret
    exact ⟨rfl, HB.out⟩
  · by_cases h2 : wt < 0
    · clear h
      go_enter Try.func21, Try.ntmps21
      go_wp2
      go_ret
      exact ⟨rfl, HB.out⟩
    · have h3 : 7 < wt := by omega
      clear h
      go_enter Try.func21, Try.ntmps21
      go_wp2
      go_ret
      exact ⟨rfl, HB.out⟩
theorem rallows_bad (v : Value) (nm uid gid : ByteArray) (m wt : Int) (w : World) (h : m < 0 ∨ wt < 0 ∨ 7 < wt) :
    Calls Try.prog 22 #[v, .string nm, .string uid, .string gid, .int .i64 m, .int .i64 wt] w fun e w' => e = .returned (.bool false) ∧ Below w.heap.size w w' := by
  have HB := Lib.hid (Below.refl w.heap.size w)
  by_cases h1 : m < 0
  · clear h
    go_enter Try.func22, Try.ntmps22
    go_wp2
    go_ret
    exact ⟨rfl, HB.out⟩
  · by_cases h2 : wt < 0
    · clear h
      go_enter Try.func22, Try.ntmps22
      go_wp2
      go_ret
      exact ⟨rfl, HB.out⟩
    · have h3 : 7 < wt := by omega
      clear h
      go_enter Try.func22, Try.ntmps22
      go_wp2
      go_ret
      exact ⟨rfl, HB.out⟩
set_option maxHeartbeats 1000000 in
theorem allows_in (v : Value) (us : List Usr) (nm uid gid : ByteArray) (m wt : Nat) (hm : m ≤ 9223372036854775807) (hw : wt ≤ 7) (w : World) (hv : Usrs w v us) (hl : us.length ≤ 1000000) (hml : ∀ j (h : j < us.length), us[j].mems.length ≤ 1000000) :
    Calls Try.prog 21 #[v, .string nm, .string uid, .string gid, .int .i64 m, .int .i64 wt] w fun e w' => e = .returned (.bool (Prm.alwN (umem us nm gid) (Prm.own nm uid) m wt)) ∧ Below w.heap.size w w' := by
  have HC := Lib.hid (member_any v us nm gid w hv hl hml)
  have hi : (m : Int) ≤ 9223372036854775807 ∧ (wt : Int) ≤ 7 := by omega
  have FF := Lib.hid (Prm.alw_ff m wt hw)
  have FT := Lib.hid (Prm.alw_ft m wt hw)
  have TF := Lib.hid (Prm.alw_tf m wt hw)
  have TT := Lib.hid (Prm.alw_tt m wt hw)
  generalize umem us nm gid = mb at *
  clear hv hml
  by_cases ho : nm = uid
  · have HO := Lib.hid (Prm.own_t ho)
    have e1 := str_eq ho
    clear ho
    cases mb
    · go_enter Try.func21, Try.ntmps21
      go_wp2_with fail
      refine HC.out.mono ?_; rintro e w1 ⟨rfl, b1⟩
      go_wp2_with fail
      go_ret
      exact ⟨by rw [HO.out, ← FT.out]; rfl, b1⟩
    · go_enter Try.func21, Try.ntmps21
      go_wp2_with fail
      refine HC.out.mono ?_; rintro e w1 ⟨rfl, b1⟩
      go_wp2_with fail
      go_ret
      exact ⟨by rw [HO.out, ← TT.out]; rfl, b1⟩
  · have HO := Lib.hid (Prm.own_f ho)
    have e1 := str_ne ho
    clear ho
    cases mb
    · go_enter Try.func21, Try.ntmps21
      go_wp2_with fail
      refine HC.out.mono ?_; rintro e w1 ⟨rfl, b1⟩
      go_wp2_with fail
      go_ret
      exact ⟨by rw [HO.out, ← FF.out]; rfl, b1⟩
    · go_enter Try.func21, Try.ntmps21
      go_wp2_with fail
      refine HC.out.mono ?_; rintro e w1 ⟨rfl, b1⟩
      go_wp2_with fail
      go_ret
      exact ⟨by rw [HO.out, ← TF.out]; rfl, b1⟩
theorem allows_any (v : Value) (us : List Usr) (nm uid gid : ByteArray) (m wt : Int) (hm : m ≤ 9223372036854775807) (w : World) (hv : Usrs w v us) (hl : us.length ≤ 1000000) (hml : ∀ j (h : j < us.length), us[j].mems.length ≤ 1000000) :
    Calls Try.prog 21 #[v, .string nm, .string uid, .string gid, .int .i64 m, .int .i64 wt] w fun e w' => e = .returned (.bool (Prm.alw (umem us nm gid) (Prm.own nm uid) m wt)) ∧ Below w.heap.size w w' := by
  by_cases h : m < 0 ∨ wt < 0 ∨ 7 < wt
  · rw [Prm.alw_bad h]; exact allows_bad v nm uid gid m wt w h
  · obtain ⟨m', rfl⟩ := Int.eq_ofNat_of_zero_le (show 0 ≤ m by omega)
    obtain ⟨wt', rfl⟩ := Int.eq_ofNat_of_zero_le (show 0 ≤ wt by omega)
    rw [Prm.alw_nat (by omega)]
    exact allows_in v us nm uid gid m' wt' (by omega) (by omega) w hv hl hml
end Go.Proofs.Ytjefmjaommpaaaa
