/- What slices.Clone of targets and of mounts returns: a row of one's own. Conditions: the slice holds the given list; at most 10^6 elements. -/
import Derived.Test.YtganenaaglfdnaaMntRow
set_option linter.unusedVariables false
set_option linter.unusedSimpArgs false
namespace Go.Proofs.Ytganenaaglfdnaa
open Go.RowKit
set_option maxHeartbeats 1000000 in
theorem tclone_any (v : Value) (l : List Tgt) (w : World) (hv : Tgts w v l) (hl : l.length ≤ 1000000) :
    Calls Try.prog 39 #[v] w fun e w' => ∃ v', e = .returned v' ∧ TOwn w' w.heap.size v' l ∧ Below w.heap.size w w' := by
  have hnil := fun (w : World) (a : Option Addr) (n c n' c' : Nat) => Lib.run_eql_slice_nil (P := Try.prog) w 41 51 a n c n' c' Try.underlying41
  obtain ⟨ao, n, cp, rfl⟩ := hv.form
  obtain ⟨rfl, _⟩ := hv.at
  have HB := Lib.hid (Below.refl w.heap.size w)
  cases ao with
  | none =>
    have h0 : l = [] ∧ cp = 0 := by
      obtain ⟨_, _, e, h1, h2, _⟩ := hv
      cases e
      have := h2 rfl
      exact ⟨List.eq_nil_of_length_eq_zero (by omega), this⟩
    obtain ⟨rfl, rfl⟩ := h0
    go_enter Try.func39, Try.ntmps39
    go_wp2_with fail
    go_ret
    exact ⟨_, rfl, World.ownsRow_nil _ _ _ _, HB.out⟩
  | some a =>
    obtain ⟨i0, hi, hz0, hz1, hz2⟩ := info_parts (P := Try.prog) (e := 51) (z := .agg #[.int .i64 0, .int .i64 0, .int .i64 0, .string ByteArray.empty, .string ByteArray.empty, .bool false]) (size := 6) (bytes := 64) (by kernel_rfl)
    have HC := Lib.hid hv.cells
    clear hv
    go_enter Try.func39, Try.ntmps39
    go_wp2_with (at_builtin; refine wpList_append_own _ rfl _ _ 41 rfl w.heap.size 51 i0 (.agg #[.int .i64 0, .int .i64 0, .int .i64 0, .string ByteArray.empty, .string ByteArray.empty, .bool false]) 6 64 Try.underlying41 hi hz0 hz1 hz2 rfl (by decide) (.slice (some ⟨w.heap.size, 0, none⟩) 0 0) 0 [] rfl ?c0 a l.length cp (fl tge l) rfl ?c1 ?c2 ?c3 ?c4 ?c5 ?c6 ?_)
    case c0 => exact ⟨rfl, .inr ⟨w.heap.size, 0, #[], rfl, Nat.le_refl _, heap_alloc_new w _, Nat.le_refl _, by unfold maxLen; omega, rfl, rfl⟩⟩
    case c1 => exact fl_length tge tge6 l
    case c2 =>
      intro j u hu
      obtain ⟨h1, h2⟩ := HC.out j u hu
      rw [(HB.out.alloc (Nat.le_refl _) _).cell (p := a.add j) h2]
      exact h1
    case c3 => exact fl_one tge1 l
    case c4 => unfold maxLen; omega
    case c5 => omega
    case c6 => simp
    intro v' w6 hown hgrow _
    go_wp2_with fail
    go_ret
    exact ⟨v', rfl, by unfold TOwn; simpa using hown, (HB.out.alloc (Nat.le_refl _) _).grown hgrow (by simp) (fun k hk => by cases hk; exact Nat.le_refl _)⟩
set_option maxHeartbeats 1000000 in
theorem mclone_any (v : Value) (ms : List Mnt) (w0 w : World) (hv : Mnts w0 v ms) (hb0 : Below w0.heap.size w0 w) (hl : ms.length ≤ 1000000) :
    Calls Try.prog 38 #[v] w fun e w' => ∃ v', e = .returned v' ∧ MList w' w.heap.size (· < w0.heap.size) v' ms ∧ Below w.heap.size w w' := by
  have hnil := fun (w : World) (a : Option Addr) (n c n' c' : Nat) => Lib.run_eql_slice_nil (P := Try.prog) w 24 55 a n c n' c' Try.underlying24
  obtain ⟨rs, rfl, ht, ao, cp, rfl, hc, hn, hcell⟩ := hv.rows
  rw [List.length_map] at hc hl ⊢
  have HB := Lib.hid (Below.refl w.heap.size w)
  cases ao with
  | none =>
    have h0 : rs = [] ∧ cp = 0 := by
      have := hn rfl
      exact ⟨List.eq_nil_of_length_eq_zero (by omega), this⟩
    obtain ⟨rfl, rfl⟩ := h0
    go_enter Try.func38, Try.ntmps38
    go_wp2_with fail
    go_ret
    exact ⟨_, rfl, ⟨[], rfl, World.ownsRow_nil _ _ _ _, fun r hr => by cases hr⟩, HB.out⟩
  | some a =>
    obtain ⟨i0, hi, hz0, hz1, hz2⟩ := info_parts (P := Try.prog) (e := 55) (z := .agg #[.int .i64 0, .int .i64 0, .int .i64 0, .string ByteArray.empty, .string ByteArray.empty, .slice none 0 0]) (size := 6) (bytes := 80) (by kernel_rfl)
    have HC := Lib.hid (hcell a rfl)
    have HT := Lib.hid ht
    clear hv hcell ht hn
    go_enter Try.func38, Try.ntmps38
    go_wp2_with (at_builtin; refine wpList_append_own _ rfl _ _ 24 rfl w.heap.size 55 i0 (.agg #[.int .i64 0, .int .i64 0, .int .i64 0, .string ByteArray.empty, .string ByteArray.empty, .slice none 0 0]) 6 80 Try.underlying24 hi hz0 hz1 hz2 rfl (by decide) (.slice (some ⟨w.heap.size, 0, none⟩) 0 0) 0 [] rfl ?c0 a rs.length cp (fl mne rs) rfl ?c1 ?c2 ?c3 ?c4 ?c5 ?c6 ?_)
    case c0 => exact ⟨rfl, .inr ⟨w.heap.size, 0, #[], rfl, Nat.le_refl _, heap_alloc_new w _, Nat.le_refl _, by unfold maxLen; omega, rfl, rfl⟩⟩
    case c1 => exact fl_length mne mne6 rs
    case c2 =>
      intro j u hu
      obtain ⟨h1, h2⟩ := HC.out j u hu
      rw [((hb0.alloc hb0.size _)).cell (p := a.add j) h2]
      exact h1
    case c3 => exact mnes1 (fun r hr => (HT.out r hr).form)
    case c4 => unfold maxLen; omega
    case c5 => omega
    case c6 => simp
    intro v' w6 hown hgrow _
    have hbw := (HB.out.alloc (Nat.le_refl _) _).grown hgrow (by simp) (fun k hk => by cases hk; exact Nat.le_refl _)
    have hres : MOwn w6 w.heap.size (· < w0.heap.size) v' rs := by
      have ho : w6.ownsRow w.heap.size 55 6 v' rs.length (fl mne rs) := by simpa using hown
      refine ⟨ho, fun r hr => ⟨(HT.out r hr).below (hb0.trans (hbw.mono hb0.size)), fun hne => ?_⟩⟩
      obtain ⟨b, e1, e2⟩ := (HT.out r hr).block hne
      exact ⟨b, e1, e2, fun e => by have := (ho.lt b e).1; have := hb0.size; omega⟩
    have HR := Lib.hid hres
    have HBW := Lib.hid hbw
    clear hown hgrow hres hbw
    go_wp2_with fail
    go_ret
    exact ⟨v', rfl, ⟨rs, rfl, HR.out⟩, HBW.out⟩
end Go.Proofs.Ytganenaaglfdnaa
