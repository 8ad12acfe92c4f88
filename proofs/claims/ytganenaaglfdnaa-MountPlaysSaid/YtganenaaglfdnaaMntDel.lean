/- What slices.Delete of one element returns, of targets and of mounts in a row of one's own. Conditions: the element is there; at most 10^6 elements. -/
import Derived.Test.YtganenaaglfdnaaMntPSame
set_option linter.unusedVariables false
set_option linter.unusedSimpArgs false
namespace Go.Proofs.Ytganenaaglfdnaa
open Go.RowKit
/-- 'clear' of one element behind the list, in the row. -/
theorem clear_own {P : Program} {w : World} {base : Nat} {t e ty : TypeId} {z : Value} {g n cap c : Nat} {xs : List Value} (ht : P.underlying t = some (.slice e)) (hv : (zeroValue e).run P w = .ok z w) (hz : z.cells.size = 6) (h1 : ∀ u ∈ z.cells.toList, u.oneCell' = true)
    (h : w.ownsRow base e 6 (.slice (some ⟨g, 0, none⟩) n cap) n xs) (hn : n + 1 ≤ cap) :
    ∃ w', (Builtin.clear_ #[t] ty #[.slice (some ⟨g, n * 6, none⟩) 1 c]).run P w = .ok (.tuple #[]) w' ∧ w'.ownsRow base e 6 (.slice (some ⟨g, 0, none⟩) n cap) n xs ∧ w.grownBy w' (some g) := by
  rcases h.2 with ⟨h', _⟩ | ⟨g', cap', cur, h', hbg, hg, hnc, hcm, hcs, htake⟩
  · simp at h'
  · simp only [Value.slice.injEq, Option.some.injEq, Addr.mk.injEq, and_true, true_and] at h'
    obtain ⟨rfl, rfl⟩ := h'
    have hzc : (Builtin.zeroCells z.cells 1).toList = z.cells.toList := by
      unfold Builtin.zeroCells
      rw [hz]
      apply List.ext_getElem
      · simp [hz]
      · intro i h1 h2
        have : i < 6 := by simpa [hz] using h2
        simp [Nat.mod_eq_of_lt this]
        rw [getElem!_pos z.cells i (by omega)]
    have hst := run_storeCells_at (P := P) g (n * 6) e z.cells.toList 0 cur w hg (by simp [hz]; omega) h1
    simp only [Nat.add_zero] at hst
    have hrun : (Builtin.clear_ #[t] ty #[.slice (some ⟨g, n * 6, none⟩) 1 c]).run P w = .ok (.tuple #[]) (w.setRow g (cur.toList.take (n * 6) ++ z.cells.toList ++ cur.toList.drop (n * 6 + z.cells.toList.length)).toArray) := by
      simp [Builtin.clear_, run_underlying ht, hv, hzc, hst]
    refine ⟨_, hrun, ⟨h.1, .inr ⟨g, cap, _, rfl, hbg, setRow_heap w g cur _ e _ hg, hnc, hcm, ?_, ?_⟩⟩, ⟨rfl, rfl, rfl, by simp, fun k _ hk => setRow_other w g k _ (fun e => hk (by simp [e]))⟩⟩
    · simp only [List.size_toArray, List.length_append, List.length_take, List.length_drop, Array.length_toList, hz]
      omega
    · rw [List.append_assoc, List.take_append_of_le_length (by rw [List.length_take, Array.length_toList]; omega), List.take_take, Nat.min_self]
      exact htake
theorem own_take {w : World} {base : Nat} {e : TypeId} {g n cap k : Nat} {xs : List Value} (h : w.ownsRow base e 6 (.slice (some ⟨g, 0, none⟩) n cap) n xs) (hk : k ≤ n) : w.ownsRow base e 6 (.slice (some ⟨g, 0, none⟩) k cap) k (xs.take (k * 6)) := by
  refine ⟨by rw [List.length_take, h.1]; omega, ?_⟩
  rcases h.2 with ⟨h', _⟩ | ⟨g', cap', cur, h', hbg, hg, hnc, hcm, hcs, htake⟩
  · simp at h'
  · simp only [Value.slice.injEq, Option.some.injEq, Addr.mk.injEq, and_true, true_and] at h'
    obtain ⟨rfl, rfl⟩ := h'
    refine .inr ⟨g, cap, cur, rfl, hbg, hg, by omega, hcm, hcs, ?_⟩
    rw [← htake, List.take_take, Nat.min_eq_left (by omega)]
theorem take_drop_erase {α : Type} (l : List α) (k : Nat) : l.take k ++ l.drop (k + 1) = l.eraseIdx k := by rw [List.eraseIdx_eq_take_drop_succ]

set_option maxRecDepth 20000 in
set_option maxHeartbeats 2000000 in
theorem tdel_any_core (l : List (Tgt)) (k m g c : Nat) (base : Nat) (w : World) (hlen : l.length = k + 1 + m) (h : w.ownsRow base 51 6 (.slice (some ⟨g, 0, none⟩) (k + 1 + m) c) (k + 1 + m) (fl tge l)) (h1c : ∀ u ∈ fl tge l, u.oneCell' = true) (hl : l.length ≤ 1000000) (hcap : k + 1 + m ≤ c) (hcm : c ≤ maxLen) :
    Calls Try.prog 52 #[.slice (some ⟨g, 0, none⟩) (k + 1 + m) c, .int .i64 (k : Int), .int .i64 ((k : Int) + 1)] w fun e w' => e = .returned (.slice (some ⟨g, 0, none⟩) (k + m) c) ∧ w'.ownsRow base 51 6 (.slice (some ⟨g, 0, none⟩) (k + m) c) (k + m) (fl tge (l.eraseIdx k)) ∧ w.grownBy w' (some g) := by
  obtain ⟨i0, hi, hz0, hz1, hz2⟩ := info_parts (P := Try.prog) (e := 51) (z := .agg #[.int .i64 0, .int .i64 0, .int .i64 0, .string ByteArray.empty, .string ByteArray.empty, .bool false]) (size := 6) (bytes := 64) (by kernel_rfl)
  have HZV : Hid (∀ w, (zeroValue 51).run Try.prog w = .ok (.agg #[.int .i64 0, .int .i64 0, .int .i64 0, .string ByteArray.empty, .string ByteArray.empty, .bool false]) w) := fun w => by simp [zeroValue, typeInfo, hi, hz0]
  have HZC : Hid (∀ u ∈ ((.agg #[.int .i64 0, .int .i64 0, .int .i64 0, .string ByteArray.empty, .string ByteArray.empty, .bool false] : Value).cells).toList, u.oneCell' = true) := by
    intro u hu
    simp [Value.cells] at hu
    rcases hu with rfl | rfl | rfl | rfl | rfl | rfl <;> rfl
  have HOD := Lib.hid (show w.drew.ownsRow base 51 6 (.slice (some ⟨g, 0, none⟩) k c) k ((fl tge l).take (k * 6)) from own_take h (by omega))
  have HNW : Hid (∀ j u, (fl tge (l.drop (k + 1)))[j]? = some u → w.drew.cell? ((⟨g, (k + 1) * 6, none⟩ : Addr).add j) = some u) := fun j u hu => by
    rw [← fl_drop tge tge6, List.getElem?_drop] at hu
    have := h.cells (g := g) rfl _ u hu
    rw [Addr.add_lit, Nat.zero_add] at this
    rw [Addr.add_lit]
    exact this
  have HLEN := Lib.hid (show (fl tge (l.drop (k + 1))).length = m * 6 from by rw [fl_length tge tge6, List.length_drop, hlen]; congr 1; omega)
  have HONE := Lib.hid (show ∀ u ∈ fl tge (l.drop (k + 1)), u.oneCell' = true from fun u hu => by
    rw [← fl_drop tge tge6] at hu
    exact h1c u (List.mem_of_mem_drop hu))
  have HNE := Lib.hid (fun (hm : m = 0) => show l.drop (k + 1) = [] from List.drop_eq_nil_of_le (by omega))
  have HROOM := Lib.hid (show k + m ≤ c from by omega)
  have b0 : (0 : Int) ≤ (k : Int) + 1 := by omega
  have b2 : (k : Int) ≤ (k : Int) + 1 := by omega
  have b3 : (k : Int) + 1 ≤ (k : Int) + 1 + m := by omega
  have b4 : (k : Int) + 1 + m ≤ 1000000 := by omega
  have HL4 := Lib.hid b4
  have b5 : (k : Int) ≤ (c : Int) := by omega
  have b6 : (k : Int) + 1 ≤ (c : Int) := by omega
  have b8 : (k : Int) + 1 + m ≤ (c : Int) := by omega
  have b9 : (k : Int) + m ≤ (k : Int) + 1 + m := by omega
  have b10 : (0 : Int) ≤ (k : Int) + m := by omega
  have hne : ((k : Int) == (k : Int) + 1) = false := beq_eq_false_iff_ne.2 (by omega)
  clear h h1c hlen hl
  have hsub : k + 1 + m - (k + m) = 1 := by omega
  by_cases hck : c = k + 1
  · subst hck
    obtain rfl : m = 0 := by omega
    have HNW0 : Hid (∀ j u, (fl tge (l.drop (k + 1)))[j]? = some u → w.drew.cell? ((⟨g, 0, none⟩ : Addr).add j) = some u) := fun j u hu => by rw [HNE.out rfl] at hu; simp [fl] at hu
    clear b2 b3 b4 b5 b6 b8 b9 b10 hcap hsub
    have b2 : (k : Int) ≤ (k : Int) + 1 := by omega
    have b4 : (k : Int) + 1 ≤ 1000000 := by have := HL4.out; omega
    clear HL4
    show Calls Try.prog 52 #[.slice (some ⟨g, 0, none⟩) (k + 1) (k + 1), .int .i64 (k : Int), .int .i64 ((k : Int) + 1)] w fun e w' => e = .returned (.slice (some ⟨g, 0, none⟩) k (k + 1)) ∧ w'.ownsRow base 51 6 (.slice (some ⟨g, 0, none⟩) k (k + 1)) k (fl tge (l.eraseIdx k)) ∧ w.grownBy w' (some g)
    go_enter Try.func52, Try.ntmps52
    go_upto_region 5 with fail
    go_region_law (refine step_append_fits (by rfl) _ _ _ (by rfl) base 51 i0 6 Try.underlying41 hi hz1 g k (k + 1) _ (by rfl) HOD.out ⟨g, 0, none⟩ 0 0 (fl tge (l.drop (k + 1))) (by rfl) HLEN.out HNW0.out HONE.out HROOM.out ?_; intro w2 hown2 hgrow2)
    have HZ := Lib.hid (show w2.ownsRow base 51 6 (.slice (some ⟨g, 0, none⟩) k (k + 1)) k (fl tge (l.eraseIdx k)) from by
      rw [fl_take tge tge6, ← fl_append, take_drop_erase] at hown2; exact hown2)
    obtain ⟨w3, hrun, hown3, hgrow3⟩ := clear_own (P := Try.prog) (t := 41) (ty := 0) (z := .agg #[.int .i64 0, .int .i64 0, .int .i64 0, .string ByteArray.empty, .string ByteArray.empty, .bool false]) (c := 1) Try.underlying41 (HZV.out w2) rfl HZC.out HZ.out (by omega)
    have HG : Hid (w.grownBy w3 (some g)) := ⟨hgrow3.os.trans hgrow2.os, hgrow3.tape.trans hgrow2.tape, hgrow3.output.trans hgrow2.output, Nat.le_trans hgrow2.size hgrow3.size, fun b hb hn => (hgrow3.block b (Nat.lt_of_lt_of_le hb hgrow2.size) hn).trans (hgrow2.block b hb hn)⟩
    have HO3 := Lib.hid hown3
    clear hown2 hgrow2 hown3 hgrow3
    go_wp2_with fail
    go_ret
    exact ⟨rfl, HO3.out, HG.out⟩
  go_enter Try.func52, Try.ntmps52
  go_upto_region 5 with fail
  go_region_law (refine step_append_fits (by rfl) _ _ _ (by rfl) base 51 i0 6 Try.underlying41 hi hz1 g k (c) _ (by rfl) HOD.out ⟨g, (k + 1) * 6, none⟩ m (c - (k + 1)) (fl tge (l.drop (k + 1))) (by rfl) HLEN.out HNW.out HONE.out HROOM.out ?_; intro w2 hown2 hgrow2)
  have HZ := Lib.hid (show w2.ownsRow base 51 6 (.slice (some ⟨g, 0, none⟩) (k + m) (c)) (k + m) (fl tge (l.eraseIdx k)) from by
    rw [fl_take tge tge6, ← fl_append, take_drop_erase] at hown2; exact hown2)
  obtain ⟨w3, hrun, hown3, hgrow3⟩ := clear_own (P := Try.prog) (t := 41) (ty := 0) (z := .agg #[.int .i64 0, .int .i64 0, .int .i64 0, .string ByteArray.empty, .string ByteArray.empty, .bool false]) (c := c - (k + m)) Try.underlying41 (HZV.out w2) rfl HZC.out HZ.out (by omega)
  have HG : Hid (w.grownBy w3 (some g)) := ⟨hgrow3.os.trans hgrow2.os, hgrow3.tape.trans hgrow2.tape, hgrow3.output.trans hgrow2.output, Nat.le_trans hgrow2.size hgrow3.size, fun b hb hn => (hgrow3.block b (Nat.lt_of_lt_of_le hb hgrow2.size) hn).trans (hgrow2.block b hb hn)⟩
  have HO3 := Lib.hid hown3
  clear hown2 hgrow2 hown3 hgrow3
  go_wp2_with fail
  go_ret
  exact ⟨rfl, HO3.out, HG.out⟩

set_option maxRecDepth 20000 in
set_option maxHeartbeats 2000000 in
theorem mdel_any_core (l : List (Mnt × Value)) (k m g c : Nat) (base : Nat) (w : World) (hlen : l.length = k + 1 + m) (h : w.ownsRow base 55 6 (.slice (some ⟨g, 0, none⟩) (k + 1 + m) c) (k + 1 + m) (fl mne l)) (h1c : ∀ u ∈ fl mne l, u.oneCell' = true) (hl : l.length ≤ 1000000) (hcap : k + 1 + m ≤ c) (hcm : c ≤ maxLen) :
    Calls Try.prog 51 #[.slice (some ⟨g, 0, none⟩) (k + 1 + m) c, .int .i64 (k : Int), .int .i64 ((k : Int) + 1)] w fun e w' => e = .returned (.slice (some ⟨g, 0, none⟩) (k + m) c) ∧ w'.ownsRow base 55 6 (.slice (some ⟨g, 0, none⟩) (k + m) c) (k + m) (fl mne (l.eraseIdx k)) ∧ w.grownBy w' (some g) := by
  obtain ⟨i0, hi, hz0, hz1, hz2⟩ := info_parts (P := Try.prog) (e := 55) (z := .agg #[.int .i64 0, .int .i64 0, .int .i64 0, .string ByteArray.empty, .string ByteArray.empty, .slice none 0 0]) (size := 6) (bytes := 80) (by kernel_rfl)
  have HZV : Hid (∀ w, (zeroValue 55).run Try.prog w = .ok (.agg #[.int .i64 0, .int .i64 0, .int .i64 0, .string ByteArray.empty, .string ByteArray.empty, .slice none 0 0]) w) := fun w => by simp [zeroValue, typeInfo, hi, hz0]
  have HZC : Hid (∀ u ∈ ((.agg #[.int .i64 0, .int .i64 0, .int .i64 0, .string ByteArray.empty, .string ByteArray.empty, .slice none 0 0] : Value).cells).toList, u.oneCell' = true) := by
    intro u hu
    simp [Value.cells] at hu
    rcases hu with rfl | rfl | rfl | rfl | rfl | rfl <;> rfl
  have HOD := Lib.hid (show w.drew.ownsRow base 55 6 (.slice (some ⟨g, 0, none⟩) k c) k ((fl mne l).take (k * 6)) from own_take h (by omega))
  have HNW : Hid (∀ j u, (fl mne (l.drop (k + 1)))[j]? = some u → w.drew.cell? ((⟨g, (k + 1) * 6, none⟩ : Addr).add j) = some u) := fun j u hu => by
    rw [← fl_drop mne mne6, List.getElem?_drop] at hu
    have := h.cells (g := g) rfl _ u hu
    rw [Addr.add_lit, Nat.zero_add] at this
    rw [Addr.add_lit]
    exact this
  have HLEN := Lib.hid (show (fl mne (l.drop (k + 1))).length = m * 6 from by rw [fl_length mne mne6, List.length_drop, hlen]; congr 1; omega)
  have HONE := Lib.hid (show ∀ u ∈ fl mne (l.drop (k + 1)), u.oneCell' = true from fun u hu => by
    rw [← fl_drop mne mne6] at hu
    exact h1c u (List.mem_of_mem_drop hu))
  have HNE := Lib.hid (fun (hm : m = 0) => show l.drop (k + 1) = [] from List.drop_eq_nil_of_le (by omega))
  have HROOM := Lib.hid (show k + m ≤ c from by omega)
  have b0 : (0 : Int) ≤ (k : Int) + 1 := by omega
  have b2 : (k : Int) ≤ (k : Int) + 1 := by omega
  have b3 : (k : Int) + 1 ≤ (k : Int) + 1 + m := by omega
  have b4 : (k : Int) + 1 + m ≤ 1000000 := by omega
  have HL4 := Lib.hid b4
  have b5 : (k : Int) ≤ (c : Int) := by omega
  have b6 : (k : Int) + 1 ≤ (c : Int) := by omega
  have b8 : (k : Int) + 1 + m ≤ (c : Int) := by omega
  have b9 : (k : Int) + m ≤ (k : Int) + 1 + m := by omega
  have b10 : (0 : Int) ≤ (k : Int) + m := by omega
  have hne : ((k : Int) == (k : Int) + 1) = false := beq_eq_false_iff_ne.2 (by omega)
  clear h h1c hlen hl
  have hsub : k + 1 + m - (k + m) = 1 := by omega
  by_cases hck : c = k + 1
  · subst hck
    obtain rfl : m = 0 := by omega
    have HNW0 : Hid (∀ j u, (fl mne (l.drop (k + 1)))[j]? = some u → w.drew.cell? ((⟨g, 0, none⟩ : Addr).add j) = some u) := fun j u hu => by rw [HNE.out rfl] at hu; simp [fl] at hu
    clear b2 b3 b4 b5 b6 b8 b9 b10 hcap hsub
    have b2 : (k : Int) ≤ (k : Int) + 1 := by omega
    have b4 : (k : Int) + 1 ≤ 1000000 := by have := HL4.out; omega
    clear HL4
    show Calls Try.prog 51 #[.slice (some ⟨g, 0, none⟩) (k + 1) (k + 1), .int .i64 (k : Int), .int .i64 ((k : Int) + 1)] w fun e w' => e = .returned (.slice (some ⟨g, 0, none⟩) k (k + 1)) ∧ w'.ownsRow base 55 6 (.slice (some ⟨g, 0, none⟩) k (k + 1)) k (fl mne (l.eraseIdx k)) ∧ w.grownBy w' (some g)
    go_enter Try.func51, Try.ntmps51
    go_upto_region 5 with fail
    go_region_law (refine step_append_fits (by rfl) _ _ _ (by rfl) base 55 i0 6 Try.underlying24 hi hz1 g k (k + 1) _ (by rfl) HOD.out ⟨g, 0, none⟩ 0 0 (fl mne (l.drop (k + 1))) (by rfl) HLEN.out HNW0.out HONE.out HROOM.out ?_; intro w2 hown2 hgrow2)
    have HZ := Lib.hid (show w2.ownsRow base 55 6 (.slice (some ⟨g, 0, none⟩) k (k + 1)) k (fl mne (l.eraseIdx k)) from by
      rw [fl_take mne mne6, ← fl_append, take_drop_erase] at hown2; exact hown2)
    obtain ⟨w3, hrun, hown3, hgrow3⟩ := clear_own (P := Try.prog) (t := 24) (ty := 0) (z := .agg #[.int .i64 0, .int .i64 0, .int .i64 0, .string ByteArray.empty, .string ByteArray.empty, .slice none 0 0]) (c := 1) Try.underlying24 (HZV.out w2) rfl HZC.out HZ.out (by omega)
    have HG : Hid (w.grownBy w3 (some g)) := ⟨hgrow3.os.trans hgrow2.os, hgrow3.tape.trans hgrow2.tape, hgrow3.output.trans hgrow2.output, Nat.le_trans hgrow2.size hgrow3.size, fun b hb hn => (hgrow3.block b (Nat.lt_of_lt_of_le hb hgrow2.size) hn).trans (hgrow2.block b hb hn)⟩
    have HO3 := Lib.hid hown3
    clear hown2 hgrow2 hown3 hgrow3
    go_wp2_with fail
    go_ret
    exact ⟨rfl, HO3.out, HG.out⟩
  go_enter Try.func51, Try.ntmps51
  go_upto_region 5 with fail
  go_region_law (refine step_append_fits (by rfl) _ _ _ (by rfl) base 55 i0 6 Try.underlying24 hi hz1 g k (c) _ (by rfl) HOD.out ⟨g, (k + 1) * 6, none⟩ m (c - (k + 1)) (fl mne (l.drop (k + 1))) (by rfl) HLEN.out HNW.out HONE.out HROOM.out ?_; intro w2 hown2 hgrow2)
  have HZ := Lib.hid (show w2.ownsRow base 55 6 (.slice (some ⟨g, 0, none⟩) (k + m) (c)) (k + m) (fl mne (l.eraseIdx k)) from by
    rw [fl_take mne mne6, ← fl_append, take_drop_erase] at hown2; exact hown2)
  obtain ⟨w3, hrun, hown3, hgrow3⟩ := clear_own (P := Try.prog) (t := 24) (ty := 0) (z := .agg #[.int .i64 0, .int .i64 0, .int .i64 0, .string ByteArray.empty, .string ByteArray.empty, .slice none 0 0]) (c := c - (k + m)) Try.underlying24 (HZV.out w2) rfl HZC.out HZ.out (by omega)
  have HG : Hid (w.grownBy w3 (some g)) := ⟨hgrow3.os.trans hgrow2.os, hgrow3.tape.trans hgrow2.tape, hgrow3.output.trans hgrow2.output, Nat.le_trans hgrow2.size hgrow3.size, fun b hb hn => (hgrow3.block b (Nat.lt_of_lt_of_le hb hgrow2.size) hn).trans (hgrow2.block b hb hn)⟩
  have HO3 := Lib.hid hown3
  clear hown2 hgrow2 hown3 hgrow3
  go_wp2_with fail
  go_ret
  exact ⟨rfl, HO3.out, HG.out⟩

theorem own_parts {w : World} {base : Nat} {e : TypeId} {v : Value} {n : Nat} {xs : List Value} (h : w.ownsRow base e 6 v n xs) (hn : 0 < n) : ∃ g c, v = .slice (some ⟨g, 0, none⟩) n c ∧ n ≤ c ∧ c ≤ maxLen ∧ base ≤ g ∧ g < w.heap.size := by
  rcases h.2 with ⟨rfl, h0⟩ | ⟨g, cap, cur, rfl, hb, hg, hc, hm, _⟩
  · omega
  · exact ⟨g, cap, rfl, hc, hm, hb, row_lt hg⟩
theorem TOwn.one {w : World} {base : Nat} {v : Value} {l : List Tgt} (h : TOwn w base v l) : ∀ u ∈ fl tge l, u.oneCell' = true := fl_one tge1 l
theorem tdel_any (v : Value) (l : List Tgt) (k : Nat) (base : Nat) (w : World) (h : TOwn w base v l) (hk : k < l.length) (hl : l.length ≤ 1000000) :
    Calls Try.prog 52 #[v, .int .i64 (k : Int), .int .i64 ((k : Int) + 1)] w fun e w' => ∃ g c, v = .slice (some ⟨g, 0, none⟩) l.length c ∧ e = .returned (.slice (some ⟨g, 0, none⟩) (l.length - 1) c) ∧ TOwn w' base (.slice (some ⟨g, 0, none⟩) (l.length - 1) c) (l.eraseIdx k) ∧ w.grownBy w' (some g) := by
  obtain ⟨g, c, rfl, h1, h2, h3, h4⟩ := own_parts h (by omega)
  obtain ⟨m, hm⟩ : ∃ m, l.length = k + 1 + m := ⟨l.length - (k + 1), by omega⟩
  have he : (l.eraseIdx k).length = k + m := by rw [List.length_eraseIdx]; split <;> omega
  unfold TOwn at *
  rw [hm] at h h1
  rw [he, hm, show k + 1 + m - 1 = k + m from by omega]
  exact (tdel_any_core l k m g c base w hm h (fl_one tge1 l) hl h1 h2).mono fun e w' ⟨e1, e2, e3⟩ => ⟨g, c, rfl, e1, e2, e3⟩
theorem MOwn.one {w : World} {base : Nat} {P : Nat → Prop} {v : Value} {rs : List (Mnt × Value)} (h : MOwn w base P v rs) : ∀ u ∈ fl mne rs, u.oneCell' = true := mnes1 (fun r hr => (h.2 r hr).1.form)
theorem mdel_any (v : Value) (rs : List (Mnt × Value)) (k : Nat) (base : Nat) (P : Nat → Prop) (w : World) (h : MOwn w base P v rs) (hk : k < rs.length) (hl : rs.length ≤ 1000000) :
    Calls Try.prog 51 #[v, .int .i64 (k : Int), .int .i64 ((k : Int) + 1)] w fun e w' => ∃ g c, v = .slice (some ⟨g, 0, none⟩) rs.length c ∧ e = .returned (.slice (some ⟨g, 0, none⟩) (rs.length - 1) c) ∧ MOwn w' base P (.slice (some ⟨g, 0, none⟩) (rs.length - 1) c) (rs.eraseIdx k) ∧ w.grownBy w' (some g) := by
  obtain ⟨g, c, rfl, h1, h2, h3, h4⟩ := own_parts h.1 (by omega)
  obtain ⟨m, hm⟩ : ∃ m, rs.length = k + 1 + m := ⟨rs.length - (k + 1), by omega⟩
  have he : (rs.eraseIdx k).length = k + m := by rw [List.length_eraseIdx]; split <;> omega
  have ho := h.1
  have ht := h.2
  have h1c := h.one
  rw [hm] at h1 ho
  unfold MOwn
  rw [he]
  simp only [hm] at ht ⊢
  rw [show k + 1 + m - 1 = k + m from by omega]
  refine (mdel_any_core rs k m g c base w hm ho h1c hl h1 h2).mono fun e w' ⟨e1, e2, e3⟩ => ⟨g, c, rfl, e1, ⟨e2, fun r hr => ?_⟩, e3⟩
  have hr' := (List.eraseIdx_sublist rs k).subset hr
  refine ⟨(ht r hr').1.keep e3.size (fun b hb hn => ?_), fun hn => ?_⟩
  · obtain ⟨b', k1, k2, k3⟩ := (ht r hr').2 hn
    rw [hb] at k1; cases k1
    obtain ⟨b', k1', hlt⟩ := (ht r hr').1.block hn
    rw [hb] at k1'; cases k1'
    exact e3.block b hlt (fun e => k3 e.symm)
  · obtain ⟨b', k1, k2, k3⟩ := (ht r hr').2 hn
    exact ⟨b', k1, k2, k3⟩
end Go.Proofs.Ytganenaaglfdnaa
