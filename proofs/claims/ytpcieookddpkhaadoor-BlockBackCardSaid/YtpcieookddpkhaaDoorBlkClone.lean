/- Rows of blocks as cells; what slices.Clone and clone return (under way). Conditions: the slice holds the given blocks; at most 10^6 of them. -/
import Derived.Test.YtpcieookddpkhaaDoorBlkSame
set_option linter.unusedVariables false
set_option linter.unusedSimpArgs false
namespace Go.Proofs.YtpcieookddpkhaaDoor
open Go.RowKit
/-- The cells of a list of blocks. -/
def bcs : List Blk → List Value
  | [] => []
  | b :: l => .string (T b.sc) :: .int .i64 b.kd :: .string (T b.dt) :: bcs l
theorem bcs_length (bs : List Blk) : (bcs bs).length = bs.length * 3 := by
  induction bs with
  | nil => rfl
  | cons b l ih => simp only [bcs, List.length_cons, ih]; omega
theorem bcs_append (a b : List Blk) : bcs (a ++ b) = bcs a ++ bcs b := by
  induction a with
  | nil => rfl
  | cons x a ih => simp only [List.cons_append, bcs, ih]
theorem bcs_one (bs : List Blk) : ∀ u ∈ bcs bs, u.oneCell' = true := by
  induction bs with
  | nil => intro u hu; cases hu
  | cons b l ih =>
    intro u hu
    simp only [bcs, List.mem_cons] at hu
    rcases hu with rfl | rfl | rfl | hu
    · rfl
    · rfl
    · rfl
    · exact ih u hu
theorem bcs_cells (w : World) (b : Nat) : ∀ (bs : List Blk) (off : Nat), (∀ j (h : j < bs.length), w.cell? ⟨b, off + j * 3, none⟩ = some (.string (T bs[j].sc)) ∧ w.cell? ⟨b, off + j * 3 + 1, none⟩ = some (.int .i64 bs[j].kd) ∧ w.cell? ⟨b, off + j * 3 + 2, none⟩ = some (.string (T bs[j].dt))) →
    ∀ j u, (bcs bs)[j]? = some u → w.cell? ⟨b, off + j, none⟩ = some u := by
  intro bs
  induction bs with
  | nil => intro off h j u hu; simp [bcs] at hu
  | cons x l ih =>
    intro off h j u hu
    have h0 := h 0 (by simp)
    match j, hu with
    | 0, hu => simp [bcs] at hu; rw [← hu]; simpa using h0.1
    | 1, hu => simp [bcs] at hu; rw [← hu]; simpa using h0.2.1
    | 2, hu => simp [bcs] at hu; rw [← hu]; simpa using h0.2.2
    | j + 3, hu =>
      have := ih (off + 3) (fun j hj => by
        have := h (j + 1) (by simpa using hj)
        simp only [List.getElem_cons_succ] at this
        rw [show off + (j + 1) * 3 = off + 3 + j * 3 from by omega] at this
        exact this) j u (by simpa [bcs] using hu)
      rw [show off + (j + 3) = off + 3 + j from by omega]
      exact this
theorem Blks.cells {w : World} {a : Addr} {n cap : Nat} {bs : List Blk} (h : Blks w (.slice (some a) n cap) bs) : ∀ j u, (bcs bs)[j]? = some u → w.cell? (a.add j) = some u ∧ (a.add j).block < w.heap.size := by
  obtain ⟨rfl, hc⟩ := h.at
  intro j u hu
  rcases Nat.eq_zero_or_pos bs.length with h0 | h0
  · rw [List.eq_nil_of_length_eq_zero h0] at hu; simp [bcs] at hu
  · obtain ⟨b, off, ha, hlt, _⟩ := hc 0 h0
    cases ha
    rw [Addr.add_lit]
    refine ⟨bcs_cells w b bs off (fun j hj => ?_) j u hu, hlt⟩
    obtain ⟨b', off', ha', _, h1⟩ := hc j hj
    cases ha'
    exact h1
set_option maxHeartbeats 1000000 in
theorem bclone_any (v : Value) (bs : List Blk) (w : World) (hv : Blks w v bs) (hl : bs.length ≤ 1000000) :
    Calls Tryd.prog 48 #[v] w fun e w' => ∃ v', e = .returned v' ∧ w'.ownsRow w.heap.size 49 3 v' bs.length (bcs bs) ∧ Below w.heap.size w w' := by
  have hnil := fun (w : World) (a : Option Addr) (n c n' c' : Nat) => Lib.run_eql_slice_nil (P := Tryd.prog) w 22 49 a n c n' c' Tryd.underlying22
  obtain ⟨ao, n, cp, rfl⟩ := hv.form
  obtain ⟨rfl, _⟩ := hv.at
  have HB := Lib.hid (Below.refl w.heap.size w)
  cases ao with
  | none =>
    have h0 : bs = [] ∧ cp = 0 := by
      obtain ⟨_, _, e, h1, h2, _⟩ := hv
      cases e
      have := h2 rfl
      exact ⟨List.eq_nil_of_length_eq_zero (by omega), this⟩
    obtain ⟨rfl, rfl⟩ := h0
    go_enter Tryd.func48, Tryd.ntmps48
    go_wp2_with fail
    go_ret
    exact ⟨_, rfl, World.ownsRow_nil _ _ _ _, HB.out⟩
  | some a =>
    obtain ⟨i0, hi, hz0, hz1, hz2⟩ := info_parts (P := Tryd.prog) (e := 49) (z := .agg #[.string ByteArray.empty, .int .i64 0, .string ByteArray.empty]) (size := 3) (bytes := 40) (by kernel_rfl)
    have HC := Lib.hid hv.cells
    clear hv
    go_enter Tryd.func48, Tryd.ntmps48
    go_wp2_with (at_builtin; refine wpList_append_own _ rfl _ _ 22 rfl w.heap.size 49 i0 (.agg #[.string ByteArray.empty, .int .i64 0, .string ByteArray.empty]) 3 40 Tryd.underlying22 hi hz0 hz1 hz2 rfl (by decide) (.slice (some ⟨w.heap.size, 0, none⟩) 0 0) 0 [] rfl ?c0 a bs.length cp (bcs bs) rfl ?c1 ?c2 ?c3 ?c4 ?c5 ?c6 ?_)
    case c0 => exact ⟨rfl, .inr ⟨w.heap.size, 0, #[], rfl, Nat.le_refl _, heap_alloc_new w _, Nat.le_refl _, by unfold maxLen; omega, rfl, rfl⟩⟩
    case c1 => exact bcs_length bs
    case c2 =>
      intro j u hu
      obtain ⟨h1, h2⟩ := HC.out j u hu
      rw [(HB.out.alloc (Nat.le_refl _) _).cell (p := a.add j) h2]
      exact h1
    case c3 => exact bcs_one bs
    case c4 => unfold maxLen; omega
    case c5 => omega
    case c6 => simp
    intro v' w6 hown hgrow _
    go_wp2_with fail
    go_ret
    exact ⟨v', rfl, by simpa using hown, (HB.out.alloc (Nat.le_refl _) _).grown hgrow (by simp) (fun k hk => by cases hk; exact Nat.le_refl _)⟩
end Go.Proofs.YtpcieookddpkhaaDoor
