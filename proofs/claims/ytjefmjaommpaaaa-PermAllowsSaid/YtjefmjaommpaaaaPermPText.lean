/- What perm.Text returns: Prm.txt. Conditions: the mode is an int. -/
import Derived.Test.YtjefmjaommpaaaaPermRText
import Derived.ArgAppend
import Derived.Deep.Onto
import Derived.Deep.AppendLies
import Derived.Test.YtjefmjaommpaaaaBits64
import Derived.Deep.DeepCutAuto
import Derived.Deep.CutBlock
set_option linter.unusedVariables false
set_option linter.unusedSimpArgs false
namespace Go.Proofs.Ytjefmjaommpaaaa
open Go.RowKit

theorem frozen_mark (w : World) (C : Array Value) (e : TypeId) (k j : Nat) (h : j < k) : (w.alloc (.cells C e (k, k + 1))).frozen? ⟨w.heap.size, j, none⟩ = false := by
  unfold World.frozen?
  rw [heap_alloc_new]
  simp; omega
theorem cell_mark (w : World) (C : Array Value) (e : TypeId) (fr : Nat × Nat) (j : Nat) (v : Value) (h : C[j]? = some v) : (w.alloc (.cells C e fr)).cell? ⟨w.heap.size, j, none⟩ = some v := by
  rw [cell_of_row _ _ _ _ _ _ (heap_alloc_new w _)]; exact h
theorem row_setCell (w : World) (g i : Nat) (cs : Array Value) (t : TypeId) (v : Value) (fr : Nat × Nat) (hg : w.heap[g]? = some (.cells cs t fr)) : (w.setCell ⟨g, i, none⟩ v).heap[g]? = some (.cells (cs.setIfInBounds i v) t fr) := by
  rw [setCell_eq_setRow w g i cs t fr v hg]
  exact setRow_heap w g cs _ t _ hg
/-- The literal's row with two letters. -/
def MRow (a b : UInt8) (B : Nat) (w : World) : Prop := w.heap[B]? = some (.cells #[.int .u8 (a.toNat : Int), .int .u8 (b.toNat : Int)] 5 (2, 3))
/-- The row of the text after k letters: the literal's own row, or one that appends have made. -/
def PRow (m : Int) (base B k : Nat) (v : Value) (w : World) : Prop :=
  (k = 0 ∧ v = .slice (some ⟨B, 0, none⟩) 2 2 ∧ MRow (Prm.c0 m) (Prm.c1 m) B w) ∨ w.ownsRow base 5 1 v (k + 2) (bys (Prm.tk m k))
namespace Prm
theorem ltr_t {m : Int} {j : Nat} (h : m / 2 ^ j % 2 = 1) : ltr m j = rwx j := if_pos h
theorem ltr_f {m : Int} {j : Nat} (h : ¬ m / 2 ^ j % 2 = 1) : ltr m j = 45 := if_neg h
end Prm
theorem pow_and (m : Int) (j : Nat) (h0 : 0 ≤ m) (h1 : m ≤ 9223372036854775807) : bits BinOp.and IntKind.i64 (m / 2 ^ j) 1 = m / 2 ^ j % 2 := by
  have hp : (0 : Int) < 2 ^ j := Int.pow_pos (by decide)
  have a : 0 ≤ m / 2 ^ j := Int.ediv_nonneg h0 (by omega)
  have b : m / 2 ^ j ≤ m := Int.ediv_le_self _ h0
  exact i64_and_one _ a (by omega)
theorem rwx_index (j : Nat) (h : j % 3 < (⟨#[120, 119, 114]⟩ : ByteArray).size) : (⟨#[120, 119, 114]⟩ : ByteArray)[j % 3] = Prm.rwx j := by
  have h3 : j % 3 = 0 ∨ j % 3 = 1 ∨ j % 3 = 2 := by omega
  unfold Prm.rwx
  rcases h3 with e | e | e <;> simp only [e] <;> rfl
theorem ptext_next {m : Int} {j : Nat} {v : Value} {w wr : World} {B : Nat} (hj : j ≤ 8) (hown : wr.ownsRow w.heap.size 5 1 v (8 - j + 2 + 1) (bys (Prm.tk m (8 - j)) ++ bys [Prm.ltr m j])) (hb : Below w.heap.size w wr) :
    (∃ j' : Nat, j' ≤ 8 ∧ Value.int .i64 ((j : Int) - 1) = .int .i64 (j' : Int) ∧ PRow m w.heap.size B (8 - j') v wr ∧ Below w.heap.size w wr) ∨ (Value.int .i64 ((j : Int) - 1) = .int .i64 (-1) ∧ wr.ownsRow w.heap.size 5 1 v 11 (bys (Prm.tk m 9)) ∧ Below w.heap.size w wr) := by
  have e : bys (Prm.tk m (8 - j)) ++ bys [Prm.ltr m j] = bys (Prm.tk m (8 - j + 1)) := by
    rw [Prm.tk_succ, bys_append, show 8 - (8 - j) = j from by omega]
  rw [e] at hown
  by_cases h0 : j = 0
  · subst h0; exact .inr ⟨rfl, hown, hb⟩
  · refine .inl ⟨j - 1, by omega, by congr 1; omega, .inr ?_, hb⟩
    rw [show 8 - (j - 1) = 8 - j + 1 from by omega]; exact hown
theorem mrow_cells {a b : UInt8} {B : Nat} {w : World} (h : w.heap[B]? = some (.cells #[.int .u8 (a.toNat : Int), .int .u8 (b.toNat : Int)] 5 (2, 3))) (k : Nat) (u : Value) (hu : [Value.int .u8 (a.toNat : Int), .int .u8 (b.toNat : Int)][k]? = some u) (o : Obj) : (w.alloc o).cell? ⟨B, k, none⟩ = some u := by
  have hlt : B < w.heap.size := by
    rcases Nat.lt_or_ge B w.heap.size with h' | h'
    · exact h'
    · simp [Array.getElem?_eq_none h'] at h
  rw [cell_of_row _ _ _ _ _ _ ((heap_alloc_old w o hlt).trans h)]
  exact (List.getElem?_toArray ..).trans hu
theorem mrow_cell {a b : UInt8} {B : Nat} {w : World} (h : MRow a b B w) (j : Nat) (v : Value) (hv : #[Value.int .u8 (a.toNat : Int), .int .u8 (b.toNat : Int)][j]? = some v) : w.cell? ⟨B, j, none⟩ = some v := by
  rw [cell_of_row _ _ _ _ _ _ h]; exact hv
theorem mrow_free {a b : UInt8} {B : Nat} {w : World} (h : MRow a b B w) (j : Nat) (hj : j < 2) : w.frozen? ⟨B, j, none⟩ = false := by
  unfold World.frozen?
  rw [h]
  simp; omega
set_option maxHeartbeats 4000000 in
theorem text_any (m : Int) (w : World) (h1 : m ≤ 9223372036854775807) :
    Calls Try.prog 12 #[.int .i64 m] w fun e w' => e = .returned (.string (T (Prm.txt m))) ∧ Below w.heap.size w w' := by
  have HV := Lib.hid (fun w => valid_any m w)
  cases hv : Prm.vld m with
  | false =>
    have HF := Lib.hid (Prm.txt_empty hv)
    rw [hv] at HV; clear hv
    go_enter Try.func12, Try.ntmps12
    go_wp2_with fail
    refine (HV.out _).mono ?_; rintro e w1 ⟨rfl, b1⟩
    go_wp2_with fail
    go_ret
    exact ⟨by rw [HF.out]; rfl, b1⟩
  | true =>
    obtain ⟨i0, hi, hz0, hz1, hz2⟩ := info_parts (P := Try.prog) (e := 5) (z := .int .u8 0) (size := 1) (bytes := 1) (by kernel_rfl)
    have h0 : 0 ≤ m := ((Prm.vld_iff m).1 hv).1
    have HF := Lib.hid (show Prm.txt m = Prm.tk m 9 from by unfold Prm.txt; rw [if_pos hv]; rfl)
    rw [hv] at HV; clear hv
    have HC := Lib.hid (fun b (hb : 0 < b) w => has_any m b hb h1 w)
    have kc := fun (w : World) (C : Array Value) (n c : Nat) => Lib.run_convert_bytes_const (P := Try.prog) w 45 5 C n c Try.underlying45 Try.underlying5
    have hf0 := fun (w : World) (C : Array Value) => frozen_mark w C 5 2 0 (by omega)
    have hf1 := fun (w : World) (C : Array Value) => frozen_mark w C 5 2 1 (by omega)
    have hc0 := fun (w : World) => cell_mark w #[.int .u8 45, .int .u8 45] 5 (2, 3) 0 _ rfl
    have hc1 := fun (w : World) => cell_mark w #[.int .u8 45, .int .u8 45] 5 (2, 3) 1 _ rfl
    obtain ⟨d, hd⟩ : ∃ d, Prm.bit m 2147483648 = d := ⟨_, rfl⟩
    obtain ⟨a, ha⟩ : ∃ d, Prm.bit m 1073741824 = d := ⟨_, rfl⟩
    obtain ⟨x, hx⟩ : ∃ d, Prm.bit m 536870912 = d := ⟨_, rfl⟩
    have HD := Lib.hid hd
    have HA := Lib.hid ha
    have HX := Lib.hid hx
    have K0 := Lib.hid (show Prm.c0 m = if d then 100 else if a then 97 else 45 from by unfold Prm.c0; rw [hd, ha])
    have K1 := Lib.hid (show Prm.c1 m = if x then 108 else 45 from by unfold Prm.c1; rw [hx])
    clear hd ha hx
    go_enter Try.func12, Try.ntmps12
    go_upto_block 0 with ((with_reducible refine (HV.out _).mono ?_); rintro e w1 ⟨rfl, b1⟩)
    go_cut [] (fun w' => MRow (Prm.c0 m) 45 w1.heap.size w' ∧ Below w.heap.size w w')
    case first =>
      cases d <;> cases a
      all_goals
        go_wp2_with (first | ((with_reducible refine (HC.out 2147483648 (by omega) _).mono ?_); rintro e w2 ⟨rfl, rfl⟩; rw [HD.out]) | ((with_reducible refine (HC.out 1073741824 (by omega) _).mono ?_); rintro e w2 ⟨rfl, rfl⟩; rw [HA.out]))
        go_meet
        refine ⟨?_, ?_⟩
        · rw [K0.out]
          unfold MRow
          first
            | exact row_setCell _ _ _ _ _ _ _ (heap_alloc_new _ _)
            | exact heap_alloc_new _ _
        · first
            | (with_reducible exact b1.alloc b1.size _)
            | ((with_reducible refine Below.setCell ?_ ?_ _); exact b1.alloc b1.size _; exact b1.size)
    case rest =>
      clear hf0 hf1 kc hc0 hc1
      obtain ⟨hrow, hb⟩ := hcut
      have hc0 := mrow_cell hrow 1 _ rfl
      have hf0 := mrow_free hrow 1 (by omega)
      go_upto_if 22 with ((with_reducible refine (HC.out 536870912 (by omega) _).mono ?_); rintro e w2 ⟨rfl, rfl⟩; rw [HX.out])
      go_cut [] (fun w' => MRow (Prm.c0 m) (Prm.c1 m) w1.heap.size w' ∧ Below w.heap.size w w')
      case first =>
        cases x
        all_goals
          go_wp2_with fail
          go_meet
          refine ⟨?_, ?_⟩
          · rw [K1.out]
            unfold MRow at hrow ⊢
            first
              | exact row_setCell _ _ _ _ _ _ _ hrow
              | exact hrow
          · first
              | (with_reducible exact hb)
              | ((with_reducible refine Below.setCell ?_ ?_ _); exact hb; exact b1.size)
      case rest =>
        clear hc0 hf0 hrow hb
        obtain ⟨hrow, hb⟩ := hcut
        go_wp2_with fail
        go_loopw [3, 4] (fun v i wr => (∃ j : Nat, j ≤ 8 ∧ i = .int .i64 (j : Int) ∧ PRow m w.heap.size w1.heap.size (8 - j) v wr ∧ Below w.heap.size w wr) ∨ (i = .int .i64 (-1) ∧ wr.ownsRow w.heap.size 5 1 v 11 (bys (Prm.tk m 9)) ∧ Below w.heap.size w wr)) (fun _ i _ => (intOf i + 1).toNat)
        case atStart => exact .inl ⟨8, by omega, rfl, .inl ⟨rfl, rfl, hrow⟩, hb⟩
        case round =>
          clear hrow hb
          rcases hrel with ⟨j, hj, rfl, hrow, hb⟩ | ⟨rfl, hown, hb⟩
          · by_cases hbit : m / 2 ^ j % 2 = 1
            · have HL := Lib.hid (Prm.ltr_t hbit)
              have hbw : (bits BinOp.and IntKind.i64 (m / 2 ^ j) 1 == 1) = true := by rw [pow_and m j h0 h1, beq_iff_eq]; exact hbit
              go_upto_region 16 with fail
              rw [rwx_index]
              have HB := Lib.hid hb
              clear hb
              rcases hrow with ⟨h8, rfl, hm⟩ | hown
              ·
                obtain rfl : j = 8 := by omega
                unfold MRow at hm
                have hcs := mrow_cells hm
                have HT0 := Lib.hid (show bys (Prm.tk m (8 - 8)) = [.int .u8 ((Prm.c0 m).toNat : Int), .int .u8 ((Prm.c1 m).toNat : Int)] from rfl)
                have HJ := Lib.hid hj
                clear hj h8
                go_wp2_with (at_builtin; refine wpList_append_grows _ rfl _ _ 45 rfl 5 i0 (.int .u8 0) 1 1 Try.underlying45 hi hz0 hz1 hz2 rfl (by decide) (some ⟨w1.heap.size, 0, none⟩) 2 2 (bys (Prm.tk m (8 - 8))) rfl (fun h => nomatch h) rfl ?d2a ⟨wr.heap.size, 0, none⟩ 1 1 (bys [Prm.ltr m 8]) rfl rfl ?c1a ?c2a ?d3a ?c3a ?c4a ?_)
                case d2a => intro b e k u hu; obtain rfl := Option.some.inj e; rw [Addr.add_lit, Nat.zero_add]; exact hcs k u (by rw [← HT0.out]; exact hu) _
                case d3a => omega
                case c1a => rw [show bys [Prm.ltr m 8] = [.int .u8 (((Prm.rwx 8).toNat : Int))] from by rw [HL.out]; rfl]; exact World.news_of_block (t := 5) (fr := (0, 0)) (heap_alloc_new wr _)
                case c2a => exact bys_oneCell _
                case c3a => unfold maxLen; omega
                case c4a => omega
                intro v' w6 hown6 hgrow6
                have hb6 : Below w.heap.size w w6 := (HB.out.alloc HB.out.size _).grown hgrow6 (Nat.le_trans HB.out.size (by simp)) (fun k hk => by cases hk)
                have hown7 : w6.ownsRow (wr.heap.size + 1) 5 1 v' 3 (bys (Prm.tk m 0) ++ bys [Prm.ltr m 8]) := hown6
                have hown8 := hown7.mono (Nat.le_trans HB.out.size (Nat.le_succ _))
                clear hown6 hown7
                clear hgrow6
                go_wp2_with fail
                go_roundw
                case rel => exact ptext_next (j := 8) (by omega) hown8 hb6
                case measure => simp [intOf]
              ·
                go_wp2_with (at_builtin; refine wpList_append_own _ rfl _ _ 45 rfl w.heap.size 5 i0 (.int .u8 0) 1 1 Try.underlying45 hi hz0 hz1 hz2 rfl (by decide) _ _ _ rfl (hown.alloc _) ⟨wr.heap.size, 0, none⟩ 1 1 (bys [Prm.ltr m j]) rfl rfl ?c1b ?c2b ?c3b ?c4b ?c5b ?_)
                case c1b => rw [show bys [Prm.ltr m j] = [.int .u8 (((Prm.rwx j).toNat : Int))] from by rw [HL.out]; rfl]; exact World.news_of_block (t := 5) (fr := (0, 0)) (heap_alloc_new wr _)
                case c2b => exact bys_oneCell _
                case c3b => unfold maxLen; omega
                case c4b => omega
                case c5b => exact Nat.le_trans HB.out.size (by simp)
                intro v' w6 hown6 hgrow6 _
                have hb6 : Below w.heap.size w w6 := (HB.out.alloc HB.out.size _).grown hgrow6 (Nat.le_trans HB.out.size (by simp)) (fun k hk => (hown.lt k hk).1)
                clear hgrow6 hown
                go_wp2_with fail
                go_roundw
                case rel => exact ptext_next (by omega) hown6 hb6
                case measure => first | (simp [intOf]; done) | (simp [intOf]; omega)
            · have HL := Lib.hid (Prm.ltr_f hbit)
              have hbw : (bits BinOp.and IntKind.i64 (m / 2 ^ j) 1 == 1) = false := by rw [pow_and m j h0 h1, beq_eq_false_iff_ne]; exact hbit
              go_upto_region 16 with fail
              skip
              have HB := Lib.hid hb
              clear hb
              rcases hrow with ⟨h8, rfl, hm⟩ | hown
              ·
                obtain rfl : j = 8 := by omega
                unfold MRow at hm
                have hcs := mrow_cells hm
                have HT0 := Lib.hid (show bys (Prm.tk m (8 - 8)) = [.int .u8 ((Prm.c0 m).toNat : Int), .int .u8 ((Prm.c1 m).toNat : Int)] from rfl)
                have HJ := Lib.hid hj
                clear hj h8
                go_wp2_with (at_builtin; refine wpList_append_grows _ rfl _ _ 45 rfl 5 i0 (.int .u8 0) 1 1 Try.underlying45 hi hz0 hz1 hz2 rfl (by decide) (some ⟨w1.heap.size, 0, none⟩) 2 2 (bys (Prm.tk m (8 - 8))) rfl (fun h => nomatch h) rfl ?d2c ⟨wr.heap.size, 0, none⟩ 1 1 (bys [Prm.ltr m 8]) rfl rfl ?c1c ?c2c ?d3c ?c3c ?c4c ?_)
                case d2c => intro b e k u hu; obtain rfl := Option.some.inj e; rw [Addr.add_lit, Nat.zero_add]; exact hcs k u (by rw [← HT0.out]; exact hu) _
                case d3c => omega
                case c1c => rw [show bys [Prm.ltr m 8] = [.int .u8 (45)] from by rw [HL.out]; rfl]; exact World.news_of_block (t := 5) (fr := (0, 0)) (heap_alloc_new wr _)
                case c2c => exact bys_oneCell _
                case c3c => unfold maxLen; omega
                case c4c => omega
                intro v' w6 hown6 hgrow6
                have hb6 : Below w.heap.size w w6 := (HB.out.alloc HB.out.size _).grown hgrow6 (Nat.le_trans HB.out.size (by simp)) (fun k hk => by cases hk)
                have hown7 : w6.ownsRow (wr.heap.size + 1) 5 1 v' 3 (bys (Prm.tk m 0) ++ bys [Prm.ltr m 8]) := hown6
                have hown8 := hown7.mono (Nat.le_trans HB.out.size (Nat.le_succ _))
                clear hown6 hown7
                clear hgrow6
                go_wp2_with fail
                go_roundw
                case rel => exact ptext_next (j := 8) (by omega) hown8 hb6
                case measure => simp [intOf]
              ·
                go_wp2_with (at_builtin; refine wpList_append_own _ rfl _ _ 45 rfl w.heap.size 5 i0 (.int .u8 0) 1 1 Try.underlying45 hi hz0 hz1 hz2 rfl (by decide) _ _ _ rfl (hown.alloc _) ⟨wr.heap.size, 0, none⟩ 1 1 (bys [Prm.ltr m j]) rfl rfl ?c1d ?c2d ?c3d ?c4d ?c5d ?_)
                case c1d => rw [show bys [Prm.ltr m j] = [.int .u8 (45)] from by rw [HL.out]; rfl]; exact World.news_of_block (t := 5) (fr := (0, 0)) (heap_alloc_new wr _)
                case c2d => exact bys_oneCell _
                case c3d => unfold maxLen; omega
                case c4d => omega
                case c5d => exact Nat.le_trans HB.out.size (by simp)
                intro v' w6 hown6 hgrow6 _
                have hb6 : Below w.heap.size w w6 := (HB.out.alloc HB.out.size _).grown hgrow6 (Nat.le_trans HB.out.size (by simp)) (fun k hk => (hown.lt k hk).1)
                clear hgrow6 hown
                go_wp2_with fail
                go_roundw
                case rel => exact ptext_next (by omega) hown6 hb6
                case measure => first | (simp [intOf]; done) | (simp [intOf]; omega)
          · have hcv := conv_own (src := 45) (dst := 9) Try.underlying45 Try.underlying5 Try.underlying9 (l := Prm.tk m 9) (by rw [Prm.tk_len]; exact hown)
            have HB := Lib.hid hb
            clear hown hb
            go_wp2_with fail
            go_ret
            exact ⟨by rw [HF.out]; rfl, HB.out⟩
end Go.Proofs.Ytjefmjaommpaaaa
