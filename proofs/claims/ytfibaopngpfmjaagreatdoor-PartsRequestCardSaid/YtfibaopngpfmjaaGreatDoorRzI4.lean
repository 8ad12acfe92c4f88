/- The reference's numbers and texts of a description. Conditions: those that each theorem names. -/
import Derived.Test.YtfibaopngpfmjaaGreatDoorRzC1
import Derived.Test.YtfibaopngpfmjaaGreatDoorRzB4
import Derived.Test.YtfibaopngpfmjaaGreatDoorRzG1
import Derived.Test.YtfibaopngpfmjaaGreatDoorRzH1
set_option linter.unusedVariables false
set_option linter.unusedSimpArgs false
set_option maxRecDepth 100000
set_option maxHeartbeats 4000000
namespace Go.Proofs.YtfibaopngpfmjaaGreatDoor
open Go.RowKit Go.Proofs
theorem r7num_any (s : List UInt8) (a wd : Nat) (w : World) (h : a + wd ≤ s.length) (hs : s.length ≤ 9000000000) : Calls Tryz.prog 249 #[.string (T s), .int .i64 (a : Int), .int .i64 (wd : Int)] w (SameI w) := by
 have hi1 : IntKind.i64.wrap ((wd : Int) - 1) = (wd : Int) - 1 := IntWalk.i64_in _ (by omega)
 have hsz : (T s).size = s.length := T_size s
 go_enter Tryz.func249, Tryz.ntmps249
 go_wp2_with fail
 go_loopg [7, 8, 9] wd (fun k n b i W => (∃ nv, n = .int .i64 nv) ∧ (∃ bv, b = .bool bv) ∧ (∃ j : Int, -1 ≤ j ∧ j < wd ∧ i = .int .i64 j ∧ k = (j + 1).toNat) ∧ W = w)
 case atStart => exact ⟨⟨0, rfl⟩, ⟨true, rfl⟩, ⟨(wd : Int) - 1, by omega, by omega, rfl, by omega⟩, rfl⟩
 case round =>
  obtain ⟨⟨nv, rfl⟩, ⟨bv, rfl⟩, ⟨j, hj0, hj1, rfl, hk⟩, rfl⟩ := hrel
  by_cases hlt : 0 ≤ j
  ·obtain ⟨i, rfl⟩ := Int.eq_ofNat_of_zero_le hlt
   have hb1 : (a : Int) + (i : Int) < s.length := by omega
   have hb0 : 0 ≤ (a : Int) + (i : Int) := by omega
   have hw1 : IntKind.i64.wrap ((a : Int) + (i : Int)) = (a : Int) + (i : Int) := IntWalk.i64_in _ (by omega)
   have hw2 : IntKind.i64.wrap ((i : Int) - 1) = (i : Int) - 1 := IntWalk.i64_in _ (by omega)
   cases bv
   all_goals (
    go_wp2_with fail
    all_goals (
     go_roundg i
     case measure => omega
     case rel => exact ⟨⟨_, rfl⟩, ⟨_, rfl⟩, ⟨(i : Int) - 1, by omega, by omega, rfl, by omega⟩, rfl⟩))
  ·have hji : j = -1 := by omega
   subst hji
   cases bv
   all_goals (go_wp2_with fail; go_ret; exact sameI _)
/-- The byte at p. -/
def byt (s : List UInt8) (p : Nat) : Int := if h : p < (T s).size then ((T s)[p].toNat : Int) else 0
/-- The number and whether all bytes are 255, behind k rounds. -/
def numst (s : List UInt8) (a wd : Nat) : Nat → Int × Bool
 | 0 => (0, true)
 | k + 1 => ((if 36028797018963968 ≤ (numst s a wd k).1 then 9223372036854775807 else wrap64 (wrap64 ((numst s a wd k).1 * 256) + wrap64 (byt s (a + (wd - 1 - k))))), (numst s a wd k).2 && (byt s (a + (wd - 1 - k)) == 255))
def numv (s : List UInt8) (a wd : Nat) : Int := if (numst s a wd wd).2 then -1 else (numst s a wd wd).1
theorem r7numP (s : List UInt8) (a wd : Nat) (w : World) (h : a + wd ≤ s.length) (hs : s.length ≤ 9000000000) : Calls Tryz.prog 249 #[.string (T s), .int .i64 (a : Int), .int .i64 (wd : Int)] w fun e w' => e = .returned (.int .i64 (numv s a wd)) ∧ w' = w := by
 have hi1 : IntKind.i64.wrap ((wd : Int) - 1) = (wd : Int) - 1 := IntWalk.i64_in _ (by omega)
 have hsz : (T s).size = s.length := T_size s
 have HV := lh (show numv s a wd = if (numst s a wd wd).2 then -1 else (numst s a wd wd).1 from rfl)
 have HN := lh (fun k => show numst s a wd (k + 1) = ((if 36028797018963968 ≤ (numst s a wd k).1 then 9223372036854775807 else wrap64 (wrap64 ((numst s a wd k).1 * 256) + wrap64 (byt s (a + (wd - 1 - k))))), (numst s a wd k).2 && (byt s (a + (wd - 1 - k)) == 255)) from rfl)
 have H0 : numst s a wd 0 = (0, true) := rfl
 have HBY := lh (fun (p : Nat) (hp : p < (T s).size) => show byt s p = ((T s)[p].toNat : Int) from dif_pos hp)
 generalize numv s a wd = vv at *
 generalize numst s a wd = st at *
 have HST := lh H0
 clear H0
 go_enter Tryz.func249, Tryz.ntmps249
 go_wp2_with fail
 go_loopg [7, 8, 9] wd (fun k n b i W => (∃ r : Nat, r ≤ wd ∧ n = .int .i64 (st r).1 ∧ b = .bool (st r).2 ∧ i = .int .i64 ((wd : Int) - 1 - r) ∧ k = wd - r) ∧ W = w)
 case atStart => exact ⟨⟨0, by omega, by rw [HST.out], by rw [HST.out], by simp, rfl⟩, rfl⟩
 case round =>
  obtain ⟨⟨r, hr, rfl, rfl, rfl, hk⟩, rfl⟩ := hrel
  by_cases hlt : r < wd
  ·obtain ⟨i, hi⟩ : ∃ i : Nat, (wd : Int) - 1 - r = (i : Int) := ⟨wd - 1 - r, by omega⟩
   rw [hi]
   have hi2 : wd - 1 - r = i := by omega
   have hb1 : (a : Int) + (i : Int) < s.length := by omega
   have hb0 : 0 ≤ (a : Int) + (i : Int) := by omega
   have hp : a + i < (T s).size := by omega
   have hw1 : IntKind.i64.wrap ((a : Int) + (i : Int)) = (a : Int) + (i : Int) := IntWalk.i64_in _ (by omega)
   have hw2 : IntKind.i64.wrap ((i : Int) - 1) = (i : Int) - 1 := IntWalk.i64_in _ (by omega)
   have hn := HN.out r
   rw [hi2, HBY.out _ hp] at hn
   have HNX := lh hn
   have HI := lh hi
   clear hn hi hi2
   generalize hst1 : (st r).1 = nv at *
   generalize hst2 : (st r).2 = bv at *
   have hie : (i : Int) - 1 = (wd : Int) - 1 - ((r + 1 : Nat) : Int) := by have := HI.out; omega
   have HIE := lh hie
   clear hie
   by_cases h55 : 36028797018963968 ≤ nv
   all_goals (
    cases bv
    all_goals (
     have hx := HNX.out
     simp only [h55, if_true, if_false, Bool.true_and, Bool.false_and] at hx
     have HX := lh hx
     clear hx
     go_wp2_with fail
     go_roundg (wd - (r + 1))
     case measure => omega
     case rel => exact ⟨⟨r + 1, by omega, by rw [HX.out], by rw [HX.out], by rw [HIE.out], rfl⟩, rfl⟩))
  ·obtain rfl : r = wd := by omega
   have hv := HV.out
   cases hb : (st r).2
   ·rw [hb] at hv
    simp only [Bool.false_eq_true, if_false] at hv
    go_wp2_with fail
    go_ret
    exact ⟨by rw [hv]; rfl, rfl⟩
   ·rw [hb] at hv
    simp only [if_true] at hv
    go_wp2_with fail
    go_ret
    exact ⟨by rw [hv]; rfl, rfl⟩
/-- Four texts, none longer than n, and a bool. -/
def Fou (n : Nat) (w : World) (e : Ending) (w' : World) : Prop := ∃ (a b c d : List UInt8) (k : Bool), e = .returned (.tuple #[.agg #[.string (T a), .string (T b), .string (T c), .string (T d)], .bool k]) ∧ (a.length ≤ n ∧ b.length ≤ n ∧ c.length ≤ n ∧ d.length ≤ n) ∧ Below w.heap.size w w'
/-- The places of the result and of the texts read so far. -/
def FoSt (w W : World) (a b c d : List UInt8) : Prop :=
 W.heap[w.heap.size]? = some (.cells #[.string (T []), .string (T []), .string (T []), .string (T [])] 290) ∧ W.heap[w.heap.size + 1]? = some (.cells #[.string (T a), .string (T b), .string (T c), .string (T d)] 290) ∧ Below w.heap.size w W
theorem foSt0 (w : World) : FoSt w ((w.alloc (.cells #[.string (T []), .string (T []), .string (T []), .string (T [])] 290)).alloc (.cells #[.string (T []), .string (T []), .string (T []), .string (T [])] 290)) [] [] [] [] := by
 have h2 := heap_alloc_new (w.alloc (.cells #[.string (T []), .string (T []), .string (T []), .string (T [])] 290)) (.cells #[.string (T []), .string (T []), .string (T []), .string (T [])] 290)
 rw [show (w.alloc (.cells #[.string (T []), .string (T []), .string (T []), .string (T [])] 290)).heap.size = w.heap.size + 1 from by simp] at h2
 exact ⟨(Lib.alloc_old _ _ _ (by simp)).trans (heap_alloc_new w _), h2, bnext (alloc_below w _) (alloc_below _ _)⟩
theorem fo_cells {W : World} {g : Nat} {a b c d : List UInt8} (h : W.heap[g]? = some (.cells #[.string (T a), .string (T b), .string (T c), .string (T d)] 290)) :
  (W.cell? ⟨g, 0, none⟩ = some (.string (T a)) ∧ W.cell? ⟨g, 1, none⟩ = some (.string (T b)) ∧ W.cell? ⟨g, 2, none⟩ = some (.string (T c)) ∧ W.cell? ⟨g, 3, none⟩ = some (.string (T d))) ∧ ∀ i, W.frozen? ⟨g, i, none⟩ = false := by
 refine ⟨⟨?_, ?_, ?_, ?_⟩, fun i => Lib.frozen_of_heap h _⟩ <;> (rw [Lib.cell_of_heap h]; rfl)
theorem fo_stored {W : World} {g : Nat} {a b c d : List UInt8} {x0 x1 x2 x3 : Value} (h : W.heap[g]? = some (.cells #[x0, x1, x2, x3] 290)) :
  ((((W.setCell ⟨g, 0, none⟩ (.string (T a))).setCell ⟨g, 1, none⟩ (.string (T b))).setCell ⟨g, 2, none⟩ (.string (T c))).setCell ⟨g, 3, none⟩ (.string (T d))).heap[g]? = some (.cells #[.string (T a), .string (T b), .string (T c), .string (T d)] 290) :=
 heap_setCell_same _ g 3 _ _ _ (heap_setCell_same _ g 2 _ _ _ (heap_setCell_same _ g 1 _ _ _ (heap_setCell_same W g 0 _ _ _ h)))
theorem ext_is (s : List UInt8) (a b : Nat) : ∃ x, (T s).extract a b = T x ∧ x.length ≤ s.length := by
 rw [extract_T, show (T s).data.toList = s from by simp [T]]
 exact ⟨_, rfl, by simp; omega⟩
theorem fo_far {w W : World} {j : Nat} {a b c d : List UInt8} {v : Value} (h : FoSt w W a b c d) : (W.setCell ⟨w.heap.size + 1, j, none⟩ v).heap[w.heap.size]? = some (.cells #[.string (T []), .string (T []), .string (T []), .string (T [])] 290) ∧ Below w.heap.size w (W.setCell ⟨w.heap.size + 1, j, none⟩ v) := by
 have hg := grown_setG (below_grownBy (Below.refl _ W) (some (w.heap.size + 1))) j v
 exact ⟨(hg.block _ (row_ltP h.1) (fun e => by have := Option.some.inj e; omega)).trans h.1, h.2.2.setCell (p := ⟨w.heap.size + 1, j, none⟩) (Nat.le_succ _) v⟩
theorem FoSt.next {w W W' : World} {a b c d : List UInt8} (h : FoSt w W a b c d) (hb : Below W.heap.size W W') : FoSt w W' a b c d :=
 ⟨(hb.block _ (row_ltP h.1)).trans h.1, (hb.block _ (row_ltP h.2.1)).trans h.2.1, bnext h.2.2 hb⟩
theorem r7texts_any (s : List UInt8) (w : World) (hs : s.length ≤ 9000000000) : Calls Tryz.prog 248 #[.string (T s)] w (Fou s.length w) := by
 have hsz : (T s).size = s.length := T_size s
 have HS0 := lh (foSt0 w)
 go_enter Tryz.func248, Tryz.ntmps248
 go_upto_region 4 with fail
 generalize World.alloc _ _ = w1 at *
 have HS1 := lh (show FoSt w w1 [] [] [] [] from HS0.out)
 clear HS0
 go_loopg [5, 6, 7] 4 (fun k n i b W => (∃ p : Nat, p ≤ s.length ∧ n = .int .i64 (p : Int)) ∧ ∃ j : Nat, j ≤ 4 ∧ i = .int .i64 (j : Int) ∧ k = 4 - j ∧ ∃ a b c d, (a.length ≤ s.length ∧ b.length ≤ s.length ∧ c.length ≤ s.length ∧ d.length ≤ s.length) ∧ FoSt w W a b c d)
 case atStart => exact ⟨⟨0, Nat.zero_le _, rfl⟩, 0, by omega, rfl, rfl, [], [], [], [], by simp, HS1.out⟩
 case round =>
  obtain ⟨⟨p, hp, rfl⟩, j, hj, rfl, hk, a, b, c, d, hl, hst⟩ := hrel
  have HST := lh hst
  have HL := lh hl
  obtain ⟨⟨z0, z1, z2, z3⟩, fz⟩ := fo_cells hst.1
  obtain ⟨⟨d0, d1, d2, d3⟩, fd⟩ := fo_cells hst.2.1
  clear hst hl HS1
  have f0 := fz 0
  have f1 := fz 1
  have f2 := fz 2
  have f3 := fz 3
  have e0 := fd 0
  have e1 := fd 1
  have e2 := fd 2
  have e3 := fd 3
  clear fz fd
  by_cases hj4 : j = 4
  ·subst hj4
   go_wp2_with fail
   have hq := fo_stored (a := a) (b := b) (c := c) (d := d) HST.out.1
   obtain ⟨⟨q0, q1, q2, q3⟩, _⟩ := fo_cells hq
   have hb5 := (((HST.out.2.2.setCell (p := ⟨w.heap.size, 0, none⟩) (Nat.le_refl _) (.string (T a))).setCell (p := ⟨w.heap.size, 1, none⟩) (Nat.le_refl _) (.string (T b))).setCell (p := ⟨w.heap.size, 2, none⟩) (Nat.le_refl _) (.string (T c))).setCell (p := ⟨w.heap.size, 3, none⟩) (Nat.le_refl _) (.string (T d))
   exact bodyPost_ret (v := .tuple #[.agg #[.string (T a), .string (T b), .string (T c), .string (T d)], .bool ((p : Int) == (s.length : Int))]) (by simp [results, Tryz.results248, go_sem, q0, q1, q2, q3]) rfl ⟨a, b, c, d, _, rfl, HL.out, hb5⟩
  ·have hji : (j : Int) < 4 := by omega
   have hw : IntKind.i64.wrap ((s.length : Int) - p) = (s.length : Int) - p := IntWalk.i64_in _ (by omega)
   by_cases hA : (s.length : Int) - p < 2
   ·go_wp2_with fail
    have hq := fo_stored (a := a) (b := b) (c := c) (d := d) HST.out.1
    obtain ⟨⟨q0, q1, q2, q3⟩, _⟩ := fo_cells hq
    have hb5 := (((HST.out.2.2.setCell (p := ⟨w.heap.size, 0, none⟩) (Nat.le_refl _) (.string (T a))).setCell (p := ⟨w.heap.size, 1, none⟩) (Nat.le_refl _) (.string (T b))).setCell (p := ⟨w.heap.size, 2, none⟩) (Nat.le_refl _) (.string (T c))).setCell (p := ⟨w.heap.size, 3, none⟩) (Nat.le_refl _) (.string (T d))
    exact bodyPost_ret (v := .tuple #[.agg #[.string (T a), .string (T b), .string (T c), .string (T d)], .bool (false)]) (by simp [results, Tryz.results248, go_sem, q0, q1, q2, q3]) rfl ⟨a, b, c, d, _, rfl, HL.out, hb5⟩
   ·have hA2 : decide ((s.length : Int) - p < 2) = false := decide_eq_false hA
    have hp1 : (p : Int) < s.length := by omega
    have hp2 : (p : Int) + 1 < s.length := by omega
    have hw2 : IntKind.i64.wrap ((p : Int) + 1) = (p : Int) + 1 := IntWalk.i64_in _ (by omega)
    have hp3 : (0 : Int) ≤ (p : Int) + 1 := by omega
    have hp4 : decide ((p : Int) + 1 < 0) = false := decide_eq_false (by omega)
    have hp5 : decide ((s.length : Int) ≤ (p : Int) + 1) = false := decide_eq_false (by omega)
    have hp6 : p < s.length := by omega
    have hp7 : p + 1 < s.length := by omega
    have hp8 : ((p : Int) + 1).toNat = p + 1 := by omega
    go_upto_region 8 with fail
    go_quiet (fail)
    obtain ⟨n, hn, hn2⟩ : ∃ n : Nat, wrap64 (wrap64 ((T s)[p].toNat : Int) + wrap64 (256 * wrap64 ((T s)[p + 1].toNat : Int))) = (n : Int) ∧ n ≤ 65535 := by
     have x1 := (T s)[p].toNat_lt
     have x2 := (T s)[p + 1].toNat_lt
     generalize (T s)[p].toNat = x at *
     generalize (T s)[p + 1].toNat = y at *
     refine ⟨x + 256 * y, ?_, by omega⟩
     rw [IntWalk.wrap64_in (x : Int) (by omega), IntWalk.wrap64_in (y : Int) (by omega), IntWalk.wrap64_in (256 * (y : Int)) (by omega), IntWalk.wrap64_in _ (by omega)]
     omega
    simp only [hn]
    have HST2 := lh (HST.out.next (below_drewN wr nq))
    clear z0 z1 z2 z3 d0 d1 d2 d3 f0 f1 f2 f3 e0 e1 e2 e3 hn HST
    generalize World.drewN _ _ = w2 at *
    obtain ⟨⟨z0, z1, z2, z3⟩, fz⟩ := fo_cells HST2.out.1
    obtain ⟨⟨d0, d1, d2, d3⟩, fd⟩ := fo_cells HST2.out.2.1
    have f0 := fz 0
    have f1 := fz 1
    have f2 := fz 2
    have f3 := fz 3
    have e0 := fd 0
    have e1 := fd 1
    have e2 := fd 2
    have e3 := fd 3
    clear fz fd
    have hw3 : IntKind.i64.wrap ((s.length : Int) - p - 2) = (s.length : Int) - p - 2 := IntWalk.i64_in _ (by omega)
    have hw4 : IntKind.i64.wrap ((p : Int) + 2) = (p : Int) + 2 := IntWalk.i64_in _ (by omega)
    by_cases hB : (s.length : Int) - p - 2 < n
    ·go_wp2_with fail
     have hq := fo_stored (a := a) (b := b) (c := c) (d := d) HST2.out.1
     obtain ⟨⟨q0, q1, q2, q3⟩, _⟩ := fo_cells hq
     have hb5 := (((HST2.out.2.2.setCell (p := ⟨w.heap.size, 0, none⟩) (Nat.le_refl _) (.string (T a))).setCell (p := ⟨w.heap.size, 1, none⟩) (Nat.le_refl _) (.string (T b))).setCell (p := ⟨w.heap.size, 2, none⟩) (Nat.le_refl _) (.string (T c))).setCell (p := ⟨w.heap.size, 3, none⟩) (Nat.le_refl _) (.string (T d))
     exact bodyPost_ret (v := .tuple #[.agg #[.string (T a), .string (T b), .string (T c), .string (T d)], .bool (false)]) (by simp [results, Tryz.results248, go_sem, q0, q1, q2, q3]) rfl ⟨a, b, c, d, _, rfl, HL.out, hb5⟩
    ·have hB2 : decide ((s.length : Int) - p - 2 < n) = false := decide_eq_false hB
     have hw5 : IntKind.i64.wrap ((p : Int) + 2 + n) = (p : Int) + 2 + n := IntWalk.i64_in _ (by omega)
     have hr1 : (p : Int) + 2 + n ≤ s.length := by omega
     have hr2 : (p : Int) + 2 ≤ (p : Int) + 2 + n := by omega
     obtain ⟨x, hx, hxl⟩ := ext_is s (p + 2) (p + 2 + n)
     rcases (by omega : j = 0 ∨ j = 1 ∨ j = 2 ∨ j = 3) with rfl | rfl | rfl | rfl
     ·go_wp2_with fail
      try rw [hx]
      go_roundg (4 - (0 + 1))
      case measure => omega
      case rel => exact ⟨⟨p + 2 + n, by omega, by go_num⟩, 0 + 1, by omega, by go_num, rfl, x, b, c, d, ⟨hxl, HL.out.2.1, HL.out.2.2.1, HL.out.2.2.2⟩, (fo_far HST2.out).1, heap_setCell_same w2 (w.heap.size + 1) 0 _ _ (.string (T x)) HST2.out.2.1, (fo_far HST2.out).2⟩
     ·go_wp2_with fail
      try rw [hx]
      go_roundg (4 - (1 + 1))
      case measure => omega
      case rel => exact ⟨⟨p + 2 + n, by omega, by go_num⟩, 1 + 1, by omega, by go_num, rfl, a, x, c, d, ⟨HL.out.1, hxl, HL.out.2.2.1, HL.out.2.2.2⟩, (fo_far HST2.out).1, heap_setCell_same w2 (w.heap.size + 1) 1 _ _ (.string (T x)) HST2.out.2.1, (fo_far HST2.out).2⟩
     ·go_wp2_with fail
      try rw [hx]
      go_roundg (4 - (2 + 1))
      case measure => omega
      case rel => exact ⟨⟨p + 2 + n, by omega, by go_num⟩, 2 + 1, by omega, by go_num, rfl, a, b, x, d, ⟨HL.out.1, HL.out.2.1, hxl, HL.out.2.2.2⟩, (fo_far HST2.out).1, heap_setCell_same w2 (w.heap.size + 1) 2 _ _ (.string (T x)) HST2.out.2.1, (fo_far HST2.out).2⟩
     ·go_wp2_with fail
      try rw [hx]
      go_roundg (4 - (3 + 1))
      case measure => omega
      case rel => exact ⟨⟨p + 2 + n, by omega, by go_num⟩, 3 + 1, by omega, by go_num, rfl, a, b, c, x, ⟨HL.out.1, HL.out.2.1, HL.out.2.2.1, hxl⟩, (fo_far HST2.out).1, heap_setCell_same w2 (w.heap.size + 1) 3 _ _ (.string (T x)) HST2.out.2.1, (fo_far HST2.out).2⟩
end Go.Proofs.YtfibaopngpfmjaaGreatDoor
