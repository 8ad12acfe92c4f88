/- What head, record and the reference's Header, sound return: the header and the sound record at the beginning of a list. Conditions: a text of at most 10^6 bytes; for record the 64 constants in the variable. -/
import Derived.Test.YtpcieookddpkhaaDoorBlkFns
import Derived.Test.YtpcieookddpkhaaDoorOctGet
import Derived.Test.YtpcieookddpkhaaDoorOctRef
set_option linter.unusedVariables false
set_option linter.unusedSimpArgs false
namespace Go.Proofs.YtpcieookddpkhaaDoor
open Go.RowKit
namespace Blok
def magic : List UInt8 := [102, 115, 98, 49]
/-- Does a header begin here? -/
def isHead (l : List UInt8) : Bool := decide (39 ≤ l.length) && decide (l.take 4 = magic)
def hK (l : List UInt8) : Int := if isHead l then Oct.getN l 4 1 else 0
def hN (l : List UInt8) : Int := if isHead l then Oct.getN l 5 2 else 0
def hS (l : List UInt8) : List UInt8 := if isHead l then (l.drop 7).take 32 else []
def hOK (l : List UInt8) : Bool := isHead l && (known (Oct.getN l 4 1) && decide (Oct.getN l 5 2 ≤ 1024))
/-- The block of the record at the beginning, if there is a sound one. -/
def sound (l : List UInt8) : Option Blk :=
  if hOK l = true ∧ hN l ≤ (l.length : Int) - 39 then
    if scr (hK l) ((l.drop 39).take (hN l).toNat) = (l.drop 7).take 32 then some ⟨(l.drop 7).take 32, hK l, (l.drop 39).take (hN l).toNat⟩ else none
  else none
theorem isHead_yes {l : List UInt8} (h : isHead l = true) : 39 ≤ l.length ∧ l.take 4 = magic := by
  unfold isHead at h; rw [Bool.and_eq_true, decide_eq_true_eq, decide_eq_true_eq] at h; exact h
theorem isHead_no {l : List UInt8} (h : isHead l = false) : l.length < 39 ∨ (39 ≤ l.length ∧ ¬ l.take 4 = magic) := by
  unfold isHead at h; rw [Bool.and_eq_false_iff, decide_eq_false_iff_not, decide_eq_false_iff_not] at h
  rcases Nat.lt_or_ge l.length 39 with h2 | h2
  · exact .inl h2
  · rcases h with h | h
    · omega
    · exact .inr ⟨h2, h⟩
theorem get_ok (l : List UInt8) (a w : Nat) (h1 : 1 ≤ w) (h2 : w ≤ 2) (h : a + w ≤ l.length) : Oct.getE l a w = 0 ∧ Oct.getT l a w = a + w ∧ 0 ≤ Oct.getN l a w ∧ Oct.getN l a w < 65536 := by
  have hp : (Oct.part l a w).length = w := by unfold Oct.part; simp; omega
  have hv := Oct.leVal_lt (Oct.part l a w)
  rw [hp] at hv
  have hw : (256 : Nat) ^ w ≤ 65536 := by
    rcases (show w = 1 ∨ w = 2 by omega) with rfl | rfl <;> simp
  have e : Oct.getE l a w = 0 := by
    unfold Oct.getE
    rw [if_neg (by omega), if_neg (by omega), if_neg (by omega)]
  refine ⟨e, ?_, ?_, ?_⟩
  · unfold Oct.getT; rw [if_pos e]
  · unfold Oct.getN; rw [if_pos e]; omega
  · unfold Oct.getN; rw [if_pos e]; omega
theorem getN_drop (l : List UInt8) (f a w : Nat) (h1 : 1 ≤ w) (h2 : w ≤ 2) (h : f + a + w ≤ l.length) : Oct.getN l ((f : Int) + a) w = Oct.getN (l.drop f) a w := by
  have e1 := (get_ok l (f + a) w h1 h2 h).1
  have e2 := (get_ok (l.drop f) a w h1 h2 (by simp; omega)).1
  have e3 : ((f + a : Nat) : Int) = (f : Int) + a := by omega
  rw [e3] at e1
  unfold Oct.getN
  rw [if_pos e1, if_pos e2]
  unfold Oct.part
  rw [List.drop_drop]
  have e4 : ((f : Int) + a).toNat = f + a := by omega
  have e5 : ((a : Int)).toNat = a := by omega
  rw [e4, e5]
end Blok
theorem extract_list (l : List UInt8) (a b : Nat) : (T l).extract a b = T ((l.drop a).take (b - a)) := by
  apply ByteArray.ext; apply Array.ext'; simp [ByteArray.data_extract, Array.toList_extract, List.extract_eq_take_drop]
theorem T_toList (l : List UInt8) : (T l).toList = l := by simp
theorem prefix_any (l p : List UInt8) (w : World) (hl : l.length ≤ 1000000000) (hp : p.length ≤ 1000000000) :
    Calls Tryd.prog 58 #[.string (T l), .string (T p)] w fun e w' => e = .returned (.bool (decide (l.take p.length = p))) ∧ w = w' := by
  rcases Nat.lt_or_ge l.length p.length with h | h
  · have HF := Lib.hid (show decide (l.take p.length = p) = false from decide_eq_false (fun e => by have := congrArg List.length e; simp at this; omega))
    have hi : (l.length : Int) < p.length := by omega
    go_enter Tryd.func58, Tryd.ntmps58
    go_wp2_with fail
    go_ret
    exact ⟨by rw [HF.out]; rfl, rfl⟩
  · have hi : (p.length : Int) ≤ l.length := by omega
    have HF := Lib.hid (show decide (l.take p.length = p) = (((T l).extract 0 p.length).toList == p) from by
      rw [extract_list, T_toList, List.drop_zero, Nat.sub_zero]
      rcases Decidable.em (l.take p.length = p) with h | h
      · rw [decide_eq_true h, teq_yes h]
      · rw [decide_eq_false h, teq_no h])
    go_enter Tryd.func58, Tryd.ntmps58
    go_wp2_with fail
    go_ret
    refine ⟨?_, rfl⟩
    rw [HF.out]
    rfl
theorem hpre_any (l p : List UInt8) (w : World) (hl : l.length ≤ 1000000000) (hp : p.length ≤ 1000000000) :
    Calls Tryd.prog 49 #[.string (T l), .string (T p)] w fun e w' => e = .returned (.bool (decide (l.take p.length = p))) ∧ w = w' := by
  have HC := Lib.hid (prefix_any l p w hl hp)
  go_enter Tryd.func49, Tryd.ntmps49
  go_wp2_with fail
  refine HC.out.mono ?_; rintro e w1 ⟨rfl, rfl⟩
  go_wp2_with fail
  go_ret
  exact ⟨rfl, rfl⟩
/-- What head says of a list. -/
def HeadSays (l : List UInt8) (w : World) (e : Ending) (w' : World) : Prop :=
  e = .returned (.tuple #[.int .i64 (Blok.hK l), .int .i64 (Blok.hN l), .string (T (Blok.hS l)), .bool (Blok.hOK l)]) ∧ Below w.heap.size w w'
theorem head_none {l : List UInt8} {w w' : World} (h : Blok.isHead l = false) (hb : Below w.heap.size w w') : HeadSays l w (.returned (.tuple #[.int .i64 0, .int .i64 0, .string (T []), .bool false])) w' := by
  unfold HeadSays Blok.hK Blok.hN Blok.hS Blok.hOK; rw [h]; exact ⟨rfl, hb⟩
set_option maxRecDepth 20000 in
set_option maxHeartbeats 2000000 in
theorem head_any (l : List UInt8) (w : World) (hl : l.length ≤ 1000000) :
    Calls Tryd.prog 39 #[.string (T l)] w (HeadSays l w) := by
  have HB := Lib.hid (Below.refl w.heap.size w)
  have HP := Lib.hid (hpre_any l Blok.magic w (by omega) (by decide))
  rw [show Blok.magic.length = 4 from rfl] at HP
  cases hh : Blok.isHead l
  · rcases Blok.isHead_no hh with h | ⟨h, h2⟩
    · have hi : (l.length : Int) < 39 := by omega
      go_enter Tryd.func39, Tryd.ntmps39
      go_wp2_with fail
      exact bodyPost_ret (v := .tuple #[.int .i64 0, .int .i64 0, .string (T []), .bool false]) (by simp [results, Tryd.results39, go_sem]) rfl (head_none hh HB.out)
    · have hi : 39 ≤ (l.length : Int) := by omega
      rw [decide_eq_false h2] at HP
      unfold Blok.magic at HP
      go_enter Tryd.func39, Tryd.ntmps39
      go_wp2_with fail
      refine HP.out.mono ?_; rintro e w1 ⟨rfl, rfl⟩
      go_wp2_with fail
      exact bodyPost_ret (v := .tuple #[.int .i64 0, .int .i64 0, .string (T []), .bool false]) (by simp [results, Tryd.results39, go_sem]) rfl (head_none hh HB.out)
  · obtain ⟨h, h2⟩ := Blok.isHead_yes hh
    have hi : 39 ≤ (l.length : Int) := by omega
    rw [decide_eq_true h2] at HP
    unfold Blok.magic at HP
    obtain ⟨g1, g2, g3, g4⟩ : Oct.getE l 4 1 = 0 ∧ Oct.getT l 4 1 = 5 ∧ 0 ≤ Oct.getN l 4 1 ∧ Oct.getN l 4 1 < 65536 := Blok.get_ok l 4 1 (by omega) (by omega) (by omega)
    obtain ⟨k1, k2, k3, k4⟩ : Oct.getE l 5 2 = 0 ∧ Oct.getT l 5 2 = 7 ∧ 0 ≤ Oct.getN l 5 2 ∧ Oct.getN l 5 2 < 65536 := Blok.get_ok l 5 2 (by omega) (by omega) (by omega)
    have HG1 := Lib.hid (get_any (T l) 4 1 w (by rw [T_size]; omega))
    have HG2 := Lib.hid (get_any (T l) 5 2 w (by rw [T_size]; omega))
    unfold GetSays at HG1 HG2
    rw [T_list] at HG1 HG2
    have HR := Lib.hid (show Blok.hK l = Oct.getN l 4 1 ∧ Blok.hN l = Oct.getN l 5 2 ∧ Blok.hS l = (l.drop 7).take 32 ∧ Blok.hOK l = (Blok.known (Oct.getN l 4 1) && decide (Oct.getN l 5 2 ≤ 1024)) from by
      unfold Blok.hK Blok.hN Blok.hS Blok.hOK; rw [hh]; exact ⟨rfl, rfl, rfl, rfl⟩)
    have HX := Lib.hid (extract_list l 7 39)
    have HK := Lib.hid (fun (n : Nat) => Calls.quiet_of_same ((known_any (Oct.getN l 4 1) (w.drewN n)).mono fun _ _ h => ⟨h.1, h.2.symm⟩))
    rw [g1, g2] at HG1
    rw [k1, k2] at HG2
    have HL := Lib.hid (fun (w' : World) (hb : Below w.heap.size w w') (b : Bool) (hb2 : Blok.hOK l = b) => (show HeadSays l w (.returned (.tuple #[.int .i64 (Oct.getN l 4 1), .int .i64 (Oct.getN l 5 2), .string ((T l).extract 7 39), .bool b])) w' from by
      unfold HeadSays; rw [HR.out.1, HR.out.2.1, HR.out.2.2.1, hb2, HX.out]; exact ⟨rfl, hb⟩))
    have HO := HR.out.2.2.2
    generalize Oct.getN l 4 1 = K at *
    generalize Oct.getN l 5 2 = M at *
    clear HR HX g1 g2 k1 k2 h2
    cases hkn : Blok.known K
    · rw [hkn] at HK HO
      go_enter Tryd.func39, Tryd.ntmps39
      go_wp2_with fail
      refine HP.out.mono ?_; rintro e w1 ⟨rfl, rfl⟩
      go_wp2_with fail
      refine HG1.out.mono ?_; rintro e w1 ⟨rfl, rfl⟩
      go_wp2_with fail
      refine HG2.out.mono ?_; rintro e w1 ⟨rfl, rfl⟩
      go_upto_region 5 with fail
      go_quiet ((go_at_call 29; with_reducible exact HK.out _))
      go_wp2_with fail
      exact bodyPost_ret (v := .tuple #[.int .i64 K, .int .i64 M, .string ((T l).extract 7 39), .bool false]) (by simp [results, Tryd.results39, go_sem]) rfl (HL.out _ (below_drewN HB.out _) _ (by rw [HO]; rfl))
    · rw [hkn] at HK HO
      cases hm : decide (M ≤ 1024)
      · have hm2 : 1024 < M := by have := of_decide_eq_false hm; omega
        rw [hm] at HO
        clear hm
        go_enter Tryd.func39, Tryd.ntmps39
        go_wp2_with fail
        refine HP.out.mono ?_; rintro e w1 ⟨rfl, rfl⟩
        go_wp2_with fail
        refine HG1.out.mono ?_; rintro e w1 ⟨rfl, rfl⟩
        go_wp2_with fail
        refine HG2.out.mono ?_; rintro e w1 ⟨rfl, rfl⟩
        go_upto_region 5 with fail
        go_quiet ((go_at_call 29; with_reducible exact HK.out _))
        go_wp2_with fail
        exact bodyPost_ret (v := .tuple #[.int .i64 K, .int .i64 M, .string ((T l).extract 7 39), .bool false]) (by simp [results, Tryd.results39, go_sem, hm2]) rfl (HL.out _ (below_drewN HB.out _) _ (by rw [HO]; rfl))
      · have hm2 : M ≤ 1024 := of_decide_eq_true hm
        rw [hm] at HO
        clear hm
        go_enter Tryd.func39, Tryd.ntmps39
        go_wp2_with fail
        refine HP.out.mono ?_; rintro e w1 ⟨rfl, rfl⟩
        go_wp2_with fail
        refine HG1.out.mono ?_; rintro e w1 ⟨rfl, rfl⟩
        go_wp2_with fail
        refine HG2.out.mono ?_; rintro e w1 ⟨rfl, rfl⟩
        go_upto_region 5 with fail
        go_quiet ((go_at_call 29; with_reducible exact HK.out _))
        go_wp2_with fail
        exact bodyPost_ret (v := .tuple #[.int .i64 K, .int .i64 M, .string ((T l).extract 7 39), .bool true]) (by simp [results, Tryd.results39, go_sem, hm2]) rfl (HL.out _ (below_drewN HB.out _) _ (by rw [HO]; rfl))
end Go.Proofs.YtpcieookddpkhaaDoor
