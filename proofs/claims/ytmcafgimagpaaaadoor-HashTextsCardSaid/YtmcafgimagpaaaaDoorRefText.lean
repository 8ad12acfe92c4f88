/- What the reference's digit, Text and Parse return: Oct.val, Sha.txt, Sha.prsS and Sha.prsE. Conditions: none beyond a text that an int can count. -/
import Derived.Test.YtmcafgimagpaaaaDoorRefMac
set_option linter.unusedVariables false
set_option linter.unusedSimpArgs false
namespace Go.Proofs.YtmcafgimagpaaaaDoor
open Go.RowKit
theorem add_T (w : World) (a b : List UInt8) (h : a.length + b.length ≤ 9223372036854775807) : (Op.stringOp .add (T a) (T b)).run Tryd.prog w = .ok (.string (T (a ++ b))) w := by
  rw [run_string_add_sum w _ _ (by rw [T_size, T_size]; exact h), T_append]
theorem dg_cut (c : Nat) (h : c < 16) : DG.extract c (c + 1) = T [Oct.dig c] := by
  have : ∀ j : Fin 16, DG.extract j.val (j.val + 1) = T [Oct.dig j.val] := by decide
  exact this ⟨c, h⟩
theorem rdig_any (c : UInt8) (w : World) :
    Calls Tryd.prog 27 #[.int .u8 (c.toNat : Int)] w fun e w' => e = .returned (.int .i64 (Oct.val c)) ∧ w = w' := by
  have hc := c.toNat_lt
  have HV := Lib.hid (show Oct.val c = if 48 ≤ c.toNat ∧ c.toNat ≤ 57 then (c.toNat : Int) - 48 else if 97 ≤ c.toNat ∧ c.toNat ≤ 102 then (c.toNat : Int) - 87 else -1 from rfl)
  generalize Oct.val c = v at *
  generalize c.toNat = n at *
  rcases Nat.lt_or_ge n 48 with h1 | h1
  · have hi : (n : Int) < 48 := by omega
    have HV2 := Lib.hid (show v = -1 from by rw [HV.out, if_neg (by omega), if_neg (by omega)])
    clear HV
    go_enter Tryd.func27, Tryd.ntmps27
    go_wp2_with fail
    go_ret
    exact ⟨by rw [HV2.out]; rfl, rfl⟩
  rcases Nat.lt_or_ge 57 n with h2 | h2
  · rcases Nat.lt_or_ge n 97 with h3 | h3
    · have hi : (57 : Int) < (n : Int) := by omega
      have hi2 : (n : Int) < 97 := by omega
      have HV2 := Lib.hid (show v = -1 from by rw [HV.out, if_neg (by omega), if_neg (by omega)])
      clear HV
      go_enter Tryd.func27, Tryd.ntmps27
      go_wp2_with fail
      go_ret
      exact ⟨by rw [HV2.out]; rfl, rfl⟩
    · rcases Nat.lt_or_ge 102 n with h4 | h4
      · have hi : (102 : Int) < (n : Int) := by omega
        have HV2 := Lib.hid (show v = -1 from by rw [HV.out, if_neg (by omega), if_neg (by omega)])
        clear HV
        go_enter Tryd.func27, Tryd.ntmps27
        go_wp2_with fail
        go_ret
        exact ⟨by rw [HV2.out]; rfl, rfl⟩
      · have hi : (97 : Int) ≤ (n : Int) := by omega
        have hi2 : (n : Int) ≤ 102 := by omega
        have HV2 := Lib.hid (show v = (n : Int) - 97 + 10 from by rw [HV.out, if_neg (by omega), if_pos (by omega)]; omega)
        clear HV
        go_enter Tryd.func27, Tryd.ntmps27
        go_wp2_with fail
        go_ret
        exact ⟨by rw [HV2.out]; first | rfl | (congr 3; omega), rfl⟩
  · have hi : (48 : Int) ≤ (n : Int) := by omega
    have hi2 : (n : Int) ≤ 57 := by omega
    have HV2 := Lib.hid (show v = (n : Int) - 48 from by rw [HV.out, if_pos (by omega)])
    clear HV
    go_enter Tryd.func27, Tryd.ntmps27
    go_wp2_with fail
    go_ret
    exact ⟨by rw [HV2.out]; first | rfl | (congr 3; omega), rfl⟩

set_option maxRecDepth 20000 in
set_option maxHeartbeats 800000 in
theorem rtext_any (s : ByteArray) (w : World) (hs : s.size = 32) :
    Calls Tryd.prog 18 #[.string s] w fun e w' => e = .returned (.string (T (Oct.hex s.data.toList))) ∧ Below w.heap.size w w' := by
  have hsl := size_list s
  have hi0 : (s.size : Int) = 32 := by omega
  go_enter Tryd.func18, Tryd.ntmps18
  go_wp2_with fail
  go_loopw [4, 5] (fun v i wr => ∃ (j : Nat), j ≤ 32 ∧ i = .int .i64 j ∧ v = .string (T (Oct.hex (s.data.toList.take j))) ∧ Below w.heap.size w wr) (fun _ i _ => 32 - (intOf i).toNat)
  case atStart => exact ⟨0, by omega, rfl, rfl, Below.refl _ _⟩
  case round =>
    obtain ⟨j, hj, rfl, rfl, hb⟩ := hrel
    by_cases hlt : j < 32
    · have hlt2 : j < s.size := by omega
      have hbb : (s[j].toNat : Int) < 256 := by have := UInt8.toNat_lt s[j]; omega
      have hq1 : (0 : Int) ≤ (s[j].toNat : Int) / 16 := by omega
      have hq2 : (s[j].toNat : Int) / 16 < 16 := by omega
      have hq3 : (0 : Int) ≤ (s[j].toNat : Int) % 16 := by omega
      have hq4 : (s[j].toNat : Int) % 16 < 16 := by omega
      have hw1 : IntKind.u8.wrap ((s[j].toNat : Int) / 16 + 1) = (s[j].toNat : Int) / 16 + 1 := by rw [IntKind.wrap_u8]; omega
      have hw2 : IntKind.u8.wrap ((s[j].toNat : Int) % 16 + 1) = (s[j].toNat : Int) % 16 + 1 := by rw [IntKind.wrap_u8]; omega
      have hx1 := dg_cut (s[j].toNat / 16) (by omega)
      have hx2 := dg_cut (s[j].toNat % 16) (by omega)
      have hl : (Oct.hex (s.data.toList.take j)).length ≤ 64 := by rw [Oct.hex_length, List.length_take]; omega
      have ha1 := fun w : World => add_T w (Oct.hex (s.data.toList.take j)) [Oct.dig (s[j].toNat / 16)] (by simp; omega)
      have ha2 := fun w : World => add_T w (Oct.hex (s.data.toList.take j) ++ [Oct.dig (s[j].toNat / 16)]) [Oct.dig (s[j].toNat % 16)] (by simp; omega)
      have hF : Oct.hex (s.data.toList.take (j + 1)) = Oct.hex (s.data.toList.take j) ++ [Oct.dig (s[j].toNat / 16)] ++ [Oct.dig (s[j].toNat % 16)] := by
        rw [take_snoc s.data.toList j (by rw [hsl]; exact hlt2), Oct.hex_append, List.append_assoc]
        rfl
      have HF := Lib.hid hF
      clear hF
      go_wp2
      go_quiet (fail)
      go_wp2
      go_quiet (fail)
      clear hw1 hw2
      go_wp2
      go_roundw
      case rel => exact ⟨j + 1, by omega, by go_num, by rw [HF.out, List.append_assoc]; rfl, by first | exact below_drewN hb _ | exact below_drewN (below_drewN hb _) _⟩
      case measure => simp [intOf]; omega
    · obtain rfl : j = 32 := by omega
      have HT := Lib.hid (List.take_of_length_le (l := s.data.toList) (i := 32) (by rw [hsl]; omega))
      clear hj hlt hs hsl
      generalize hX : T (Oct.hex (s.data.toList.take 32)) = X
      go_wp2
      go_ret
      subst hX
      exact ⟨Eq.trans (b := Ending.returned (.string (T (Oct.hex (s.data.toList.take 32))))) rfl (by rw [HT.out]), hb⟩
theorem rtext_T (l : List UInt8) (w : World) :
    Calls Tryd.prog 18 #[.string (T l)] w fun e w' => e = .returned (.string (T (Sha.txt l))) ∧ Below w.heap.size w w' := by
  by_cases h : l.length = 32
  · have h1 := rtext_any (T l) w (by rw [T_size]; exact h)
    rw [T_list] at h1
    rw [show Sha.txt l = Oct.hex l from if_pos h]
    exact h1
  · have hi : ¬ (l.length : Int) = 32 := by omega
    have HF := Lib.hid (show Sha.txt l = [] from if_neg h)
    clear h
    go_enter Tryd.func18, Tryd.ntmps18
    go_wp2_with fail
    go_ret
    exact ⟨by rw [HF.out]; rfl, Below.refl _ _⟩

def PrsSays (s : ByteArray) (w : World) (e : Ending) (w' : World) : Prop :=
  e = .returned (.tuple #[.string (T (Sha.prsS s.data.toList)), .int .i64 (Sha.prsE s.data.toList)]) ∧ Below w.heap.size w w'
theorem prs_none {s : ByteArray} {w w' : World} (h : Oct.unhex s.data.toList = none) (hb : Below w.heap.size w w') : PrsSays s w (.returned (.tuple #[.string (T []), .int .i64 2])) w' := by
  unfold PrsSays Sha.prsS Sha.prsE; rw [h]; exact ⟨rfl, hb⟩
theorem prs_some {s : ByteArray} {w w' : World} {l : List UInt8} (h : Oct.unhex s.data.toList = some l) (hl : l.length = 32) (hb : Below w.heap.size w w') : PrsSays s w (.returned (.tuple #[.string (T l), .int .i64 0])) w' := by
  unfold PrsSays Sha.prsS Sha.prsE; rw [h]; simp only [if_pos hl]; exact ⟨trivial, hb⟩
theorem prs_long {s : ByteArray} {w w' : World} (h : s.size ≠ 64) (hb : Below w.heap.size w w') : PrsSays s w (.returned (.tuple #[.string (T []), .int .i64 2])) w' := by
  cases hu : Oct.unhex s.data.toList with
  | none => exact prs_none hu hb
  | some r =>
    have := Oct.unhex_length _ _ hu
    rw [size_list] at this
    unfold PrsSays Sha.prsS Sha.prsE; rw [hu]; simp only [if_neg (show ¬ r.length = 32 by omega)]; exact ⟨trivial, hb⟩

theorem rparse_long (s : ByteArray) (w : World) (hs : s.size ≠ 64) :
    Calls Tryd.prog 16 #[.string s] w (PrsSays s w) := by
  have HF := Lib.hid (prs_long hs (Below.refl _ w))
  have hi : ¬ (s.size : Int) = 64 := by omega
  clear hs
  go_enter Tryd.func16, Tryd.ntmps16
  go_wp2
  go_ret2
  exact HF.out

set_option maxHeartbeats 800000 in
theorem rparse_yes (s : ByteArray) (w : World) (hs : s.size = 64) :
    Calls Tryd.prog 16 #[.string s] w (PrsSays s w) := by
  obtain ⟨i0, hi, hz0, hz1, hz2⟩ := info_parts (P := Tryd.prog) (e := 5) (z := .int .u8 0) (size := 1) (bytes := 1) (by kernel_rfl)
  have hsl := size_list s
  have hi0 : (s.size : Int) = 64 := by omega
  go_enter Tryd.func16, Tryd.ntmps16
  go_wp2
  go_loopw [4, 5] (fun v i wr => ∃ (j : Nat) (acc : List UInt8), j ≤ 32 ∧ i = .int .i64 (2 * (j : Int)) ∧ acc.length = j ∧ wr.ownsRow w.heap.size 5 1 v j (bys acc) ∧ Hid (Oct.unhex (s.data.toList.take (2 * j)) = some acc) ∧ Below w.heap.size w wr) (fun _ i _ => s.size - (intOf i).toNat)
  case atStart => exact ⟨0, [], by omega, rfl, rfl, World.ownsRow_nil _ _ _ _, rfl, Below.refl _ _⟩
  case round =>
    obtain ⟨j, acc, hj, rfl, hlen, hown, HU, hb⟩ := hrel
    by_cases hlt : j < 32
    · have hi1 : 2 * j < s.size := by omega
      have hi2 : 2 * j + 1 < s.size := by omega
      have hi3 : (2 : Int) * j < s.size := by omega
      have hi4 : (2 : Int) * j + 1 < s.size := by omega
      have hi5 : (0 : Int) ≤ 2 * j := by omega
      have hi6 : (0 : Int) ≤ 2 * j + 1 := by omega
      have hi7 : (2 : Int) * j < 64 := by omega
      have hi8 : (2 : Int) * j + 1 < 64 := by omega
      have va := Oct.val_lt (s[2 * j])
      have vb := Oct.val_lt (s[2 * j + 1])
      have hw1 : IntKind.i64.wrap (2 * (j : Int) + 1) = 2 * (j : Int) + 1 := IntWalk.i64_in _ (by omega)
      have hcall := fun (n : Nat) (c : UInt8) => Calls.quiet_of_same ((rdig_any c (wr.drewN n)).mono fun _ _ h => ⟨h.1, h.2.symm⟩)
      have HC := Lib.hid hcall
      clear hcall
      by_cases hba : Oct.val s[2 * j] < 0
      · have HF := Lib.hid (fun nq => prs_none (w := w) (w' := wr.drewN nq) (Oct.unhex_bad j s.data.toList (by rw [size_list]; exact hi2) (.inl hba)) (below_drewN hb nq))
        go_wp2
        go_quiet ((go_at_call 27; exact HC.out _ _))
        clear hw1
        go_wp2
        go_ret2
        exact HF.out _
      by_cases hbb : Oct.val s[2 * j + 1] < 0
      · have HF := Lib.hid (fun nq => prs_none (w := w) (w' := wr.drewN nq) (Oct.unhex_bad j s.data.toList (by rw [size_list]; exact hi2) (.inr hbb)) (below_drewN hb nq))
        go_wp2
        go_quiet ((go_at_call 27; exact HC.out _ _))
        clear hw1
        go_wp2
        go_ret2
        exact HF.out _
      · have HS := Lib.hid (show Oct.unhex (s.data.toList.take (2 * (j + 1))) = some (acc ++ [UInt8.ofNat (16 * Oct.val s[2 * j] + Oct.val s[2 * j + 1]).toNat]) from
          (Oct.unhex_step j s.data.toList acc (by rw [size_list]; exact hi2) (fun h => h.elim hba hbb) HU.out).trans (by rw [show 16 * Oct.val s[2 * j] = Oct.val s[2 * j] * 16 from Int.mul_comm _ _]; rfl))
        go_wp2
        go_quiet ((go_at_call 27; exact HC.out _ _))
        clear hw1 HC
        have hown' : (wr.drewN nq).ownsRow w.heap.size 5 1 _ j (bys acc) := hown
        have hb' := below_drewN hb nq
        clear hown hb
        generalize wr.drewN nq = wq at *
        go_wp2_with (at_builtin; refine wpList_append_own _ rfl _ _ 28 rfl w.heap.size 5 i0 (.int .u8 0) 1 1 Tryd.underlying28 hi hz0 hz1 hz2 rfl (by decide) _ _ _ rfl (hown'.alloc _) ⟨wq.heap.size, 0, none⟩ 1 1 (bys [UInt8.ofNat (16 * Oct.val s[2 * j] + Oct.val s[2 * j + 1]).toNat]) rfl rfl ?c1 ?c2 ?c3 ?c4 ?c5 ?_)
        case c1 => rw [show bys [UInt8.ofNat (16 * Oct.val s[2 * j] + Oct.val s[2 * j + 1]).toNat] = [.int .u8 (16 * Oct.val s[2 * j] + Oct.val s[2 * j + 1])] from by simp [bys]; omega]; exact World.news_of_block (t := 5) (fr := (0, 0)) (heap_alloc_new wq _)
        case c2 => exact bys_oneCell _
        case c3 => unfold maxLen; omega
        case c4 => omega
        case c5 => exact Nat.le_trans hb'.size (by simp)
        intro v' w6 hown6 hgrow6 _
        have hb6 : Below w.heap.size w w6 := (hb'.alloc hb'.size _).grown hgrow6 (Nat.le_trans hb'.size (by simp)) (fun k hk => (hown'.lt k hk).1)
        rw [← bys_append] at hown6
        have HO6 := Lib.hid hown6
        have HB6 := Lib.hid hb6
        clear hgrow6 hown' hb' hown6 hb6
        go_wp2
        go_roundw
        case rel => exact ⟨j + 1, _, by omega, by go_num, by simp [hlen], HO6.out, HS.out, HB6.out⟩
        case measure => simp [intOf]; omega
    · obtain rfl : j = 32 := by omega
      have hcv := conv_own (src := 28) (dst := 9) Tryd.underlying28 Tryd.underlying5 Tryd.underlying9 (l := acc) (by rw [hlen]; exact hown)
      have HF := Lib.hid (prs_some (w := w) (w' := wr) (l := acc) (by have := HU.out; rwa [List.take_of_length_le (by rw [size_list]; omega)] at this) hlen hb)
      clear hown hb
      go_wp2
      go_ret2
      exact HF.out
theorem rparse_T (l : List UInt8) (w : World) :
    Calls Tryd.prog 16 #[.string (T l)] w fun e w' => e = .returned (.tuple #[.string (T (Sha.prsS l)), .int .i64 (Sha.prsE l)]) ∧ Below w.heap.size w w' := by
  by_cases h : l.length = 64
  · exact rparse_yes (T l) w (by rw [T_size]; exact h)
  · exact rparse_long (T l) w (by rw [T_size]; exact h)
end Go.Proofs.YtmcafgimagpaaaaDoor
