/- Attributes in memory, and what slices.Clone, IndexFunc, ContainsFunc return for them. Conditions: the slice holds the given list; at most 10^6 attributes. -/
import Derived.Test.YtjjdaelddicokaaGreatDoorAuMath
import Derived.Test.YtjjdaelddicokaaGreatDoorStrsA
import Derived.Deep.Slices
set_option linter.unusedVariables false
set_option linter.unusedSimpArgs false
namespace Go.Proofs.YtjjdaelddicokaaGreatDoor
open Go.RowKit
open Au (Att)
theorem aafter1_new {w w1 : World} {A : Obj} (hb : Below (w.alloc A).heap.size (w.alloc A) w1) : w1.heap[w.heap.size]? = some A := (hb.block _ (by simp)).trans (heap_alloc_new _ _)
theorem aafter1 {w w1 : World} {A : Obj} (hb : Below (w.alloc A).heap.size (w.alloc A) w1) : Below w.heap.size w w1 := ((Below.refl _ _).alloc (Nat.le_refl _) _).trans (hb.mono (by simp))
theorem below_drew1 {n : Nat} {w W : World} (h : Below n w W) : Below n w W.drew := ⟨h.os, h.tape, h.output, h.size, h.block⟩
theorem seq_yes {a b : List UInt8} (h : a = b) : (a == b) = true := by rw [h]; simp
theorem seq_no {a b : List UInt8} (h : ¬ a = b) : (a == b) = false := by rw [beq_eq_false_iff_ne]; exact h
/-- The cells of an attribute. -/
def ate (a : Att) : List Value := [.string (T a.name), .string (T a.value), .bool a.query]
def ACells (w : World) (b o : Nat) (a : Att) : Prop :=
  w.cell? ⟨b, o, none⟩ = some (.string (T a.name)) ∧ w.cell? ⟨b, o + 1, none⟩ = some (.string (T a.value)) ∧ w.cell? ⟨b, o + 2, none⟩ = some (.bool a.query)
theorem ACells.below {w w' : World} {b o : Nat} {a : Att} (h : ACells w b o a) (hb : Below w.heap.size w w') (hlt : b < w.heap.size) : ACells w' b o a :=
  ⟨(hb.cell (p := ⟨b, o, none⟩) hlt).trans h.1, (hb.cell (p := ⟨b, o + 1, none⟩) hlt).trans h.2.1, (hb.cell (p := ⟨b, o + 2, none⟩) hlt).trans h.2.2⟩
/-- A list of attributes in memory. -/
def Atts (w : World) (v : Value) (l : List Att) : Prop :=
  ∃ ao cap, v = .slice ao l.length cap ∧ l.length ≤ cap ∧ (ao = none → cap = 0) ∧ ∀ j (h : j < l.length), ∃ b off, ao = some ⟨b, off, none⟩ ∧ b < w.heap.size ∧ ACells w b (off + j * 3) l[j]
theorem Atts.below {w w' : World} {v : Value} {l : List Att} (h : Atts w v l) (hb : Below w.heap.size w w') : Atts w' v l := by
  obtain ⟨ao, cap, hv, hc, hn, hcell⟩ := h
  refine ⟨ao, cap, hv, hc, hn, fun j h => ?_⟩
  obtain ⟨b, off, ha, hlt, c0⟩ := hcell j h
  exact ⟨b, off, ha, Nat.lt_of_lt_of_le hlt hb.size, c0.below hb hlt⟩
theorem Atts.form {w : World} {v : Value} {l : List Att} (h : Atts w v l) : ∃ ao n c, v = .slice ao n c := by obtain ⟨a, c, e, _⟩ := h; exact ⟨_, _, _, e⟩
theorem Atts.at {w : World} {ao : Option Addr} {n cap : Nat} {l : List Att} (h : Atts w (.slice ao n cap) l) : n = l.length ∧ ∀ j (hj : j < l.length), ∃ b off, ao = some ⟨b, off, none⟩ ∧ b < w.heap.size ∧ ACells w b (off + j * 3) l[j] := by
  obtain ⟨ao', cap', hv, _, _, hc⟩ := h
  cases hv
  exact ⟨rfl, hc⟩
theorem atts_nil (w : World) : Atts w (.slice none 0 0) [] := ⟨none, 0, rfl, Nat.le_refl _, fun _ => rfl, fun j hj => by simp at hj⟩
/-- The first k attributes: 'l[:k]'. -/
theorem Atts.take {w : World} {ao : Option Addr} {n cap : Nat} {l : List Att} (h : Atts w (.slice ao n cap) l) {k : Nat} (hk : k ≤ l.length) : Atts w (.slice ao k cap) (l.take k) := by
  obtain ⟨ao', cap', hv, hc, hn, hcell⟩ := h
  cases hv
  refine ⟨ao, cap, by rw [List.length_take, Nat.min_eq_left hk], by rw [List.length_take]; omega, hn, fun j hj => ?_⟩
  rw [List.length_take] at hj
  obtain ⟨b, off, ha, hlt, c⟩ := hcell j (by omega)
  exact ⟨b, off, ha, hlt, by rw [List.getElem_take]; exact c⟩
theorem ateg (w : World) (b o : Nat) (a : Att) (h : ACells w b o a) (i : Nat) (u : Value) (hu : (ate a)[i]? = some u) : w.cell? ⟨b, o + i, none⟩ = some u := by
  match i, hu with
  | 0, hu => simp [ate] at hu; subst hu; exact h.1
  | 1, hu => simp [ate] at hu; subst hu; exact h.2.1
  | 2, hu => simp [ate] at hu; subst hu; exact h.2.2
  | i + 3, hu => simp [ate] at hu
/-- The cells of a list. -/
def afl : List Att → List Value
  | [] => []
  | a :: l => ate a ++ afl l
theorem afl_length (l : List Att) : (afl l).length = l.length * 3 := by
  induction l with
  | nil => rfl
  | cons a l ih => simp only [afl, List.length_append, ih, List.length_cons, ate, List.length_nil]; omega
theorem afl_get : ∀ (l : List Att) (j i : Nat) (hj : j < l.length) (hi : i < 3), (afl l)[j * 3 + i]? = (ate l[j])[i]? := by
  intro l
  induction l with
  | nil => intro j i hj; simp at hj
  | cons a l ih =>
    intro j i hj hi
    have h3 : (ate a).length = 3 := rfl
    cases j with
    | zero => simp only [afl, Nat.zero_mul, Nat.zero_add, List.getElem_cons_zero]; rw [List.getElem?_append_left (by rw [h3]; exact hi)]
    | succ j =>
      have := ih j i (by simpa using hj) hi
      simp only [afl, List.getElem_cons_succ]
      rw [List.getElem?_append_right (by rw [h3]; omega), h3, show (j + 1) * 3 + i - 3 = j * 3 + i from by omega]
      exact this
theorem afl_one (l : List Att) : ∀ u ∈ afl l, u.oneCell' = true := by
  induction l with
  | nil => intro u hu; cases hu
  | cons a l ih =>
    intro u hu
    simp only [afl, ate, List.mem_append, List.mem_cons, List.not_mem_nil, or_false] at hu
    rcases hu with (rfl | rfl | rfl) | hu
    · rfl
    · rfl
    · rfl
    · exact ih u hu
theorem Atts.cells {w : World} {a : Addr} {n cap : Nat} {l : List Att} (h : Atts w (.slice (some a) n cap) l) : ∀ j u, (afl l)[j]? = some u → w.cell? (a.add j) = some u ∧ (a.add j).block < w.heap.size := by
  obtain ⟨rfl, hc⟩ := h.at
  intro j u hu
  have hk : j < l.length * 3 := by rw [← afl_length l]; exact (List.getElem?_eq_some_iff.1 hu).1
  have e := afl_get l (j / 3) (j % 3) (by omega) (by omega)
  rw [show j / 3 * 3 + j % 3 = j from by omega, hu] at e
  obtain ⟨b, off, ha, hlt, c⟩ := hc (j / 3) (by omega)
  cases ha
  rw [Addr.add_lit]
  have := ateg w b (off + j / 3 * 3) _ c (j % 3) u e.symm
  rw [show off + j / 3 * 3 + j % 3 = off + j from by omega] at this
  exact ⟨this, hlt⟩
theorem atts_own {w : World} {base : Nat} {v : Value} {l : List Att} (h : w.ownsRow base 52 3 v l.length (afl l)) : Atts w v l := by
  rcases h.2 with ⟨rfl, h0⟩ | ⟨g, cap, cur, rfl, hb, hg, hnc, hcm, hcs, htk⟩
  · rw [List.eq_nil_of_length_eq_zero h0]; exact atts_nil w
  · refine ⟨some ⟨g, 0, none⟩, cap, rfl, hnc, (fun e => by cases e), fun j hj => ⟨g, 0, rfl, ?_, ?_⟩⟩
    · rcases Nat.lt_or_ge g w.heap.size with h' | h'
      · exact h'
      · simp [Array.getElem?_eq_none h'] at hg
    · have hcell : ∀ i u, i < 3 → (ate l[j])[i]? = some u → w.cell? ⟨g, 0 + j * 3 + i, none⟩ = some u := fun i u hi hu => by
        have := h.cells (g := g) rfl (j * 3 + i) u (by rw [afl_get l j i hj hi]; exact hu)
        rw [Addr.add_lit] at this
        rw [show 0 + j * 3 + i = 0 + (j * 3 + i) from by omega]
        exact this
      exact ⟨hcell 0 _ (by decide) rfl, hcell 1 _ (by decide) rfl, hcell 2 _ (by decide) rfl⟩
set_option maxHeartbeats 1000000 in
theorem aclone_any (v : Value) (l : List Att) (w : World) (hv : Atts w v l) (hl : l.length ≤ 1000000) :
    Calls Tryz.prog 43 #[v] w fun e w' => ∃ a n c, e = .returned (.slice a n c) ∧ Atts w' (.slice a n c) l ∧ (∀ q, a = some q → w.heap.size ≤ q.block) ∧ Below w.heap.size w w' := by
  have hnil := fun (w : World) (a : Option Addr) (n c n' c' : Nat) => Lib.run_eql_slice_nil (P := Tryz.prog) w 22 52 a n c n' c' Tryz.underlying22
  obtain ⟨ao, n, cp, rfl⟩ := hv.form
  obtain ⟨rfl, _⟩ := hv.at
  have HB := Lib.hid (Below.refl w.heap.size w)
  cases ao with
  | none =>
    have h0 : l = [] ∧ cp = 0 := by
      obtain ⟨_, _, e, h1, h2, _⟩ := hv
      cases e
      have := h2 rfl
      exact ⟨List.eq_nil_of_length_eq_zero (by omega), this⟩
    obtain ⟨rfl, rfl⟩ := h0
    go_enter Tryz.func43, Tryz.ntmps43
    go_wp2_with fail
    go_ret
    exact ⟨_, _, _, rfl, atts_nil _, (fun q hq => by cases hq), HB.out⟩
  | some a =>
    obtain ⟨i0, hi, hz0, hz1, hz2⟩ := info_parts (P := Tryz.prog) (e := 52) (z := .agg #[.string ByteArray.empty, .string ByteArray.empty, .bool false]) (size := 3) (bytes := 40) (by kernel_rfl)
    have HC := Lib.hid hv.cells
    clear hv
    go_enter Tryz.func43, Tryz.ntmps43
    go_wp2_with (at_builtin; refine wpList_append_own _ rfl _ _ 22 rfl w.heap.size 52 i0 (.agg #[.string ByteArray.empty, .string ByteArray.empty, .bool false]) 3 40 Tryz.underlying22 hi hz0 hz1 hz2 rfl (by decide) (.slice (some ⟨w.heap.size, 0, none⟩) 0 0) 0 [] rfl ?c0 a l.length cp (afl l) rfl ?c1 ?c2 ?c3 ?c4 ?c5 ?c6 ?_)
    case c0 => exact ⟨rfl, .inr ⟨w.heap.size, 0, #[], rfl, Nat.le_refl _, heap_alloc_new w _, Nat.le_refl _, by unfold maxLen; omega, rfl, rfl⟩⟩
    case c1 => exact afl_length l
    case c2 =>
      intro j u hu
      obtain ⟨h1, h2⟩ := HC.out j u hu
      rw [(HB.out.alloc (Nat.le_refl _) _).cell (p := a.add j) h2]
      exact h1
    case c3 => exact afl_one l
    case c4 => unfold maxLen; omega
    case c5 => omega
    case c6 => simp
    intro v' w6 hown hgrow _
    have hat : Atts w6 v' l := atts_own (base := w.heap.size) (by simpa using hown)
    obtain ⟨a6, n6, c6, rfl⟩ := hat.form
    have HA := Lib.hid hat
    have HAB := Lib.hid (show ∀ q, a6 = some q → w.heap.size ≤ q.block from fun q hq => by
      subst hq
      rcases hown.2 with ⟨e, _⟩ | ⟨g', cap', cur, e, hb', _⟩
      · cases e
      · cases e; exact hb')
    have HBW := Lib.hid ((HB.out.alloc (Nat.le_refl _) _).grown hgrow (by simp) (fun k hk => by cases hk; exact Nat.le_refl _))
    clear hown hgrow hat
    go_wp2_with fail
    go_ret
    exact ⟨_, _, _, rfl, HA.out, HAB.out, HBW.out⟩
/-- The closure of attr.index. -/
theorem icls_any (a : Att) (n : List UInt8) (g : Nat) (w : World) (hg : w.cell? ⟨g, 0, none⟩ = some (.string (T n))) :
    Calls Tryz.prog 76 #[.agg #[.string (T a.name), .string (T a.value), .bool a.query], .pointer (some ⟨g, 0, none⟩)] w fun e w' => e = .returned (.bool (Au.isNm n a)) ∧ Below w.heap.size w w' := by
  have hlt : g < w.heap.size := block_lt_of_cell hg
  have hne : g ≠ w.heap.size := by omega
  have HB := Lib.hid ((Below.refl w.heap.size w).alloc (Nat.le_refl _) (.cells #[.string (T a.name), .string (T a.value), .bool a.query] 52))
  obtain ⟨nm, va, q⟩ := a
  cases q with
  | true =>
    go_enter Tryz.func76, Tryz.ntmps76
    go_wp2_with fail
    go_ret
    exact ⟨rfl, HB.out⟩
  | false =>
    by_cases he : nm = n
    · have HF := Lib.hid (show Au.isNm n ⟨nm, va, false⟩ = true from by simp [Au.isNm, he])
      subst he
      go_enter Tryz.func76, Tryz.ntmps76
      go_wp2_with fail
      go_ret
      exact ⟨by rw [HF.out]; rfl, HB.out⟩
    · have HF := Lib.hid (show Au.isNm n ⟨nm, va, false⟩ = false from by simp [Au.isNm, he])
      have e1 := seq_no he
      clear he
      go_enter Tryz.func76, Tryz.ntmps76
      go_wp2_with fail
      go_ret
      exact ⟨by rw [HF.out]; rfl, HB.out⟩
/-- The closure of attr.check. -/
theorem ccls_any (b a : Att) (g : Nat) (w : World) (hg : ACells w g 0 a) :
    Calls Tryz.prog 64 #[.agg #[.string (T b.name), .string (T b.value), .bool b.query], .pointer (some ⟨g, 0, none⟩)] w fun e w' => e = .returned (.bool (Au.sameNm a b)) ∧ Below w.heap.size w w' := by
  obtain ⟨g0, g1, g2⟩ := hg
  have hlt : g < w.heap.size := block_lt_of_cell g0
  have hne : g ≠ w.heap.size := by omega
  have HB := Lib.hid ((Below.refl w.heap.size w).alloc (Nat.le_refl _) (.cells #[.string (T b.name), .string (T b.value), .bool b.query] 52))
  by_cases he : b.name = a.name
  · have HF := Lib.hid (show Au.sameNm a b = true from by simp [Au.sameNm, he])
    rw [he]
    rw [he] at HB
    go_enter Tryz.func64, Tryz.ntmps64
    go_wp2_with fail
    go_ret
    exact ⟨by rw [HF.out]; rfl, HB.out⟩
  · have HF := Lib.hid (show Au.sameNm a b = false from by simp [Au.sameNm, he])
    have e1 := seq_no he
    clear he
    go_enter Tryz.func64, Tryz.ntmps64
    go_wp2_with fail
    go_ret
    exact ⟨by rw [HF.out]; rfl, HB.out⟩
set_option maxHeartbeats 1000000 in
theorem nidx_any (v : Value) (l : List Att) (n : List UInt8) (g : Nat) (w : World) (hg : w.cell? ⟨g, 0, none⟩ = some (.string (T n))) (hv : Atts w v l) (hl : l.length ≤ 1000000) :
    Calls Tryz.prog 75 #[v, .func (.func 76) #[] #[.pointer (some ⟨g, 0, none⟩)]] w fun e w' => e = .returned (.int .i64 (Au.ix (Au.isNm n) l)) ∧ Below w.heap.size w w' := by
  obtain ⟨ao, cap, rfl, hc, hn, hcell⟩ := hv
  have hlt0 : g < w.heap.size := block_lt_of_cell hg
  have HC := Lib.hid hcell
  have HG := Lib.hid hg
  have HI := Lib.hid (Au.ix_at (Au.isNm n) l)
  have HN := Lib.hid (Au.ix_none (Au.isNm n) l)
  have HB0 := Lib.hid (Below.refl w.heap.size w)
  clear hcell hn hg
  go_enter Tryz.func75, Tryz.ntmps75
  go_wp2_with fail
  go_loopw [8] (fun i wr => ∃ k : Nat, k ≤ l.length ∧ i = .int .i64 (k : Int) ∧ Hid (∀ j (hj : j < k) (hk : k ≤ l.length), ¬ (Au.isNm n) (l[j]'(by omega)) = true) ∧ Below w.heap.size w wr) (fun i _ => l.length - (intOf i).toNat)
  case atStart => exact ⟨0, by omega, rfl, (fun j hj => by omega), HB0.out⟩
  case round =>
    obtain ⟨k, hk, rfl, hn, hb⟩ := hrel
    by_cases hlt : k < l.length
    · obtain ⟨b, off, rfl, hbl, cc⟩ := HC.out k hlt
      obtain ⟨d0, d1, d2⟩ := ACells.below cc hb hbl
      have hgr : wr.cell? ⟨g, 0, none⟩ = some (.string (T n)) := (hb.cell (p := ⟨g, 0, none⟩) hlt0).trans HG.out
      have HCL := Lib.hid (icls_any l[k] n g wr hgr)
      clear cc hgr
      have HBB := Lib.hid hb
      clear hb
      by_cases he : (Au.isNm n) l[k] = true
      · have HF := Lib.hid (HI.out k hlt (fun j hj => hn.out j hj (by omega)) he)
        rw [he] at HCL
        clear he
        go_wp2_with fail
        refine HCL.out.mono ?_; rintro e w1 ⟨rfl, h1⟩
        go_wp2_with fail
        go_ret
        exact ⟨by rw [HF.out]; rfl, bnext HBB.out h1⟩
      · have HF : Hid (∀ j (hj : j < k + 1) (hk : k + 1 ≤ l.length), ¬ (Au.isNm n) (l[j]'(by omega)) = true) := fun j hj hk' => by
          rcases Nat.lt_or_ge j k with h | h
          · exact hn.out j h (by omega)
          · obtain rfl : j = k := by omega
            exact he
        rw [Bool.eq_false_iff.2 he] at HCL
        clear he
        go_wp2_with fail
        refine HCL.out.mono ?_; rintro e w1 ⟨rfl, h1⟩
        go_wp2_with fail
        go_roundw
        case rel => exact ⟨k + 1, by omega, by go_num, HF, bnext HBB.out h1⟩
        case measure => simp [intOf]; omega
    · obtain rfl : k = l.length := by omega
      have HF := Lib.hid (HN.out (fun j hj => hn.out j hj (Nat.le_refl _)))
      have HBB := Lib.hid hb
      clear hb
      go_wp2_with fail
      go_ret
      exact ⟨by rw [HF.out]; rfl, HBB.out⟩
set_option maxHeartbeats 1000000 in
theorem cidx_any (v : Value) (l : List Att) (a : Att) (g : Nat) (w : World) (hg : ACells w g 0 a) (hv : Atts w v l) (hl : l.length ≤ 1000000) :
    Calls Tryz.prog 75 #[v, .func (.func 64) #[] #[.pointer (some ⟨g, 0, none⟩)]] w fun e w' => e = .returned (.int .i64 (Au.ix (Au.sameNm a) l)) ∧ Below w.heap.size w w' := by
  obtain ⟨ao, cap, rfl, hc, hn, hcell⟩ := hv
  have hlt0 : g < w.heap.size := block_lt_of_cell hg.1
  have HC := Lib.hid hcell
  have HG := Lib.hid hg
  have HI := Lib.hid (Au.ix_at (Au.sameNm a) l)
  have HN := Lib.hid (Au.ix_none (Au.sameNm a) l)
  have HB0 := Lib.hid (Below.refl w.heap.size w)
  clear hcell hn hg
  go_enter Tryz.func75, Tryz.ntmps75
  go_wp2_with fail
  go_loopw [8] (fun i wr => ∃ k : Nat, k ≤ l.length ∧ i = .int .i64 (k : Int) ∧ Hid (∀ j (hj : j < k) (hk : k ≤ l.length), ¬ (Au.sameNm a) (l[j]'(by omega)) = true) ∧ Below w.heap.size w wr) (fun i _ => l.length - (intOf i).toNat)
  case atStart => exact ⟨0, by omega, rfl, (fun j hj => by omega), HB0.out⟩
  case round =>
    obtain ⟨k, hk, rfl, hn, hb⟩ := hrel
    by_cases hlt : k < l.length
    · obtain ⟨b, off, rfl, hbl, cc⟩ := HC.out k hlt
      obtain ⟨d0, d1, d2⟩ := ACells.below cc hb hbl
      have hgr : ACells wr g 0 a := HG.out.below hb hlt0
      have HCL := Lib.hid (ccls_any l[k] a g wr hgr)
      clear cc hgr
      have HBB := Lib.hid hb
      clear hb
      by_cases he : (Au.sameNm a) l[k] = true
      · have HF := Lib.hid (HI.out k hlt (fun j hj => hn.out j hj (by omega)) he)
        rw [he] at HCL
        clear he
        go_wp2_with fail
        refine HCL.out.mono ?_; rintro e w1 ⟨rfl, h1⟩
        go_wp2_with fail
        go_ret
        exact ⟨by rw [HF.out]; rfl, bnext HBB.out h1⟩
      · have HF : Hid (∀ j (hj : j < k + 1) (hk : k + 1 ≤ l.length), ¬ (Au.sameNm a) (l[j]'(by omega)) = true) := fun j hj hk' => by
          rcases Nat.lt_or_ge j k with h | h
          · exact hn.out j h (by omega)
          · obtain rfl : j = k := by omega
            exact he
        rw [Bool.eq_false_iff.2 he] at HCL
        clear he
        go_wp2_with fail
        refine HCL.out.mono ?_; rintro e w1 ⟨rfl, h1⟩
        go_wp2_with fail
        go_roundw
        case rel => exact ⟨k + 1, by omega, by go_num, HF, bnext HBB.out h1⟩
        case measure => simp [intOf]; omega
    · obtain rfl : k = l.length := by omega
      have HF := Lib.hid (HN.out (fun j hj => hn.out j hj (Nat.le_refl _)))
      have HBB := Lib.hid hb
      clear hb
      go_wp2_with fail
      go_ret
      exact ⟨by rw [HF.out]; rfl, HBB.out⟩
theorem ccontains_any (v : Value) (l : List Att) (a : Att) (g : Nat) (w : World) (hg : ACells w g 0 a) (hv : Atts w v l) (hl : l.length ≤ 1000000) :
    Calls Tryz.prog 63 #[v, .func (.func 64) #[] #[.pointer (some ⟨g, 0, none⟩)]] w fun e w' => e = .returned (.bool (l.any (Au.sameNm a))) ∧ Below w.heap.size w w' := by
  have HC := Lib.hid (cidx_any v l a g w hg hv hl)
  have HF := Lib.hid (Au.ix_any (Au.sameNm a) l)
  clear hv hg
  go_enter Tryz.func63, Tryz.ntmps63
  go_wp2_with fail
  refine HC.out.mono ?_; rintro e w1 ⟨rfl, h1⟩
  go_wp2_with fail
  go_ret
  exact ⟨by rw [HF.out]; rfl, h1⟩
end Go.Proofs.YtjjdaelddicokaaGreatDoor
