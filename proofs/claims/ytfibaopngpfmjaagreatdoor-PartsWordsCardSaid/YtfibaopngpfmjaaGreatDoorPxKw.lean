/- What plain, isName, isKeyword, keyword and begins return at the words of a simple command. Conditions: the first word is echo; bytealg.MaxLen holds a number. -/
import Derived.Test.YtfibaopngpfmjaaGreatDoorPxTk
set_option linter.unusedVariables false
set_option linter.unusedSimpArgs false
namespace Go.Proofs.YtfibaopngpfmjaaGreatDoor
open Go.RowKit Go.Proofs
def echo : List UInt8 := [101, 99, 104, 111]
def echoTok (p : Nat) : Tok := ⟨1, p, echo, [48, 48, 48, 48]⟩
theorem echo_val (p : Nat) : tkval (echoTok p) = .agg #[.int .i64 1, .int .i64 (p : Int), .string (T [101, 99, 104, 111]), .string (T [48, 48, 48, 48])] := rfl
theorem plain_echo (p : Nat) (w : World) :
    Calls Tryz.prog 161 #[tkval (echoTok p)] w fun e w' => e = .returned (.bool true) ∧ Below w.heap.size w w' := by
  have HB := Lib.hid (Below.refl w.heap.size w)
  have HI := Lib.hid (show ∀ (W : World), Calls Tryz.prog 38 #[.string (T [48, 48, 48, 48]), .int .u8 49] W fun e w' => e = .returned (.int .i64 (-1)) ∧ w' = W from fun W => by
    have := strings_IndexByte (T [48, 48, 48, 48]) 49 W
    rw [T_list, show Lib.indexByte [48, 48, 48, 48] (49 : Int).toNat.toUInt8 = -1 from by decide] at this
    exact this)
  rw [echo_val]
  go_enter Tryz.func161, Tryz.ntmps161
  go_wp2_with fail
  (with_reducible refine (HI.out _).mono ?_); rintro e w2 ⟨rfl, rfl⟩
  go_wp2_with fail
  go_ret
  exact ⟨rfl, HB.out.alloc (Nat.le_refl _) _⟩
set_option maxRecDepth 100000 in
set_option maxHeartbeats 4000000 in
theorem isName_echo (w : World) :
    Calls Tryz.prog 251 #[.string (T [101, 99, 104, 111])] w fun e w' => e = .returned (.bool true) ∧ w' = w := by
  have h0 : (T [101, 99, 104, 111]).size = 4 := rfl
  have k0 : ∀ h, ((T [101, 99, 104, 111])[0]'h).toNat = 101 := fun _ => rfl
  have k1 : ∀ h, ((T [101, 99, 104, 111])[1]'h).toNat = 99 := fun _ => rfl
  have k2 : ∀ h, ((T [101, 99, 104, 111])[2]'h).toNat = 104 := fun _ => rfl
  have k3 : ∀ h, ((T [101, 99, 104, 111])[3]'h).toNat = 111 := fun _ => rfl
  go_enter Tryz.func251, Tryz.ntmps251
  go_wp2_with fail
  refine wp_loop_rounds 5 ?_
  rw [rounds_succ]
  go_wp2_with fail
  rw [rounds_succ]
  go_wp2_with fail
  rw [rounds_succ]
  go_wp2_with fail
  rw [rounds_succ]
  go_wp2_with fail
  rw [rounds_succ]
  go_wp2_with fail
  go_ret
  exact ⟨rfl, rfl⟩
def Lx.keys : List UInt8 := [32, 105, 102, 32, 110, 111, 116, 32, 119, 104, 105, 108, 101, 32, 102, 111, 114, 32, 105, 110, 32, 115, 119, 105, 116, 99, 104, 32, 99, 97, 115, 101, 32, 102, 110, 32, 126, 32]
set_option maxRecDepth 100000 in
set_option maxHeartbeats 4000000 in
theorem isKeyword_echo (m : Int) (w : World) (hm : w.cell? ⟨0, 0, none⟩ = some (.int .i64 m)) :
    Calls Tryz.prog 162 #[.string (T [101, 99, 104, 111])] w fun e w' => e = .returned (.bool false) ∧ w' = w := by
  have HI := Lib.hid (show ∀ (W : World), Calls Tryz.prog 38 #[.string (T [101, 99, 104, 111]), .int .u8 32] W fun e w' => e = .returned (.int .i64 (-1)) ∧ w' = W from fun W => by
    have := strings_IndexByte (T [101, 99, 104, 111]) 32 W
    rw [T_list, show Lib.indexByte [101, 99, 104, 111] (32 : Int).toNat.toUInt8 = -1 from by decide] at this
    exact this)
  have HC := Lib.hid (show Calls Tryz.prog 203 #[.string (T [32, 105, 102, 32, 110, 111, 116, 32, 119, 104, 105, 108, 101, 32, 102, 111, 114, 32, 105, 110, 32, 115, 119, 105, 116, 99, 104, 32, 99, 97, 115, 101, 32, 102, 110, 32, 126, 32]), .string (T [32, 101, 99, 104, 111, 32])] w fun e w' => e = .returned (.bool false) ∧ w' = w from by
    have := strings_Contains (T Lx.keys) (T [32, 101, 99, 104, 111, 32]) m w (by decide) hm
    rw [T_list, T_list, show Lib.contains Lx.keys [32, 101, 99, 104, 111, 32] = false from by decide] at this
    exact this)
  have h0 : (T [101, 99, 104, 111]).size = 4 := rfl
  clear hm
  go_enter Tryz.func162, Tryz.ntmps162
  go_wp2_with fail
  (with_reducible refine (HI.out _).mono ?_); rintro e w2 ⟨rfl, rfl⟩
  go_wp2_with fail
  refine (HC.out).mono ?_; rintro e w3 ⟨rfl, rfl⟩
  go_wp2_with fail
  go_ret
  exact ⟨rfl, rfl⟩
set_option maxHeartbeats 2000000 in
theorem keyword_echo (p : Nat) (m : Int) (w : World) (hm : w.cell? ⟨0, 0, none⟩ = some (.int .i64 m)) :
    Calls Tryz.prog 96 #[tkval (echoTok p)] w fun e w' => e = .returned (.string (T [])) ∧ Below w.heap.size w w' := by
  have hg0 : 0 < w.heap.size := block_lt_of_cell hm
  have HB := Lib.hid (show Below w.heap.size w (w.alloc (.cells #[.int .i64 1, .int .i64 (p : Int), .string (T [101, 99, 104, 111]), .string (T [48, 48, 48, 48])] 132)) from (Below.refl w.heap.size w).alloc (Nat.le_refl _) _)
  have HN := Lib.hid (heap_alloc_new w (.cells #[.int .i64 1, .int .i64 (p : Int), .string (T [101, 99, 104, 111]), .string (T [48, 48, 48, 48])] 132))
  have HP := Lib.hid (plain_echo p)
  have HK := Lib.hid (fun (W : World) hm => isKeyword_echo m W hm)
  have HM := Lib.hid hm
  clear hm
  rw [echo_val] at HP ⊢
  go_enter Tryz.func96, Tryz.ntmps96
  go_wp2_with fail
  generalize World.alloc _ _ = w1 at *
  (with_reducible refine (HP.out _).mono ?_); rintro e w2 ⟨rfl, b2⟩
  have HB2 := Lib.hid (bnext HB.out b2)
  have HN2 := Lib.hid ((b2.block _ (row_ltP HN.out)).trans HN.out)
  clear b2
  have HM2 := Lib.hid ((HB2.out.cell (p := ⟨0, 0, none⟩) hg0).trans HM.out)
  obtain ⟨q0, q1, q2, q3⟩ := four_cells HN2.out
  go_wp2_with fail
  (with_reducible refine (HK.out _ HM2.out).mono ?_); rintro e w3 ⟨rfl, rfl⟩
  go_wp2_with fail
  go_ret
  exact ⟨rfl, HB2.out⟩
set_option maxHeartbeats 2000000 in
theorem begins_yes (g n : Nat) (l : List Tok) (w : World) (h : PrS w g l n) (hl : l.length ≤ 1000) (hn : n < l.length) (hw : Wds l) :
    Calls Tryz.prog 94 #[.pointer (some ⟨g, 0, none⟩), .bool false] w fun e w' => e = .returned (.bool true) ∧ Below w.heap.size w w' := by
  have HT := Lib.hid (ptok0 g n l w h hl (by omega))
  have HI := Lib.hid (fun (W : World) => begw_yes (tkAt l n) W (hw.in hn))
  clear hl hn hw h
  unfold tkval at HT HI
  generalize tkAt l n = t at *
  go_enter Tryz.func94, Tryz.ntmps94
  go_wp2_with fail
  (with_reducible refine HT.out.mono ?_); rintro e w1 ⟨rfl, b1⟩
  have HB1 := Lib.hid b1
  clear b1
  go_wp2_with fail
  have HB2 := Lib.hid (HB1.out.alloc HB1.out.size (.cells #[.int .i64 t.kind, .int .i64 (t.pos : Int), .string (T t.text), .string (T t.quoted)] 132))
  (with_reducible refine (HI.out _).mono ?_); rintro e w2 ⟨rfl, b2⟩
  have HB3 := Lib.hid (bnext HB2.out b2)
  clear b2
  go_wp2_with fail
  go_ret
  exact ⟨rfl, HB3.out⟩
end Go.Proofs.YtfibaopngpfmjaaGreatDoor
